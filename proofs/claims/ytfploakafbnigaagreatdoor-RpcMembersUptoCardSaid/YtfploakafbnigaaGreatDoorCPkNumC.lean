/-
  Joined texts: NumSame NumInt NumBytes NumTo NumPower NumDigits NumVal.
-/
import Derived.Test.YtfploakafbnigaaGreatDoorCPkNumB
import Derived.WalkKit
import Derived.WalkSpells
import Derived.WalkLawsBesides
import Derived.BigQuiet
import Derived.Deep.QuietTactic
import Derived.Lib.Hide
import Derived.Laws.StructEq
import Derived.Deep.RegionHeld3
import Derived.Deep.RegionWith
import Derived.Deep.DeepCutAuto
import Derived.Lib.OthersKept
import Derived.Lib.Strings
import Derived.Laws.AppendOwn
import Derived.OwnWalk
import Derived.ChangeKeysEq
import Derived.Deep.DeepFit
import Derived.Lib.BufferRead
namespace Go.Proofs.YtfploakafbnigaaGreatDoor
open Go.RowKit Num
set_option linter.unusedVariables false
set_option linter.unusedSimpArgs false
theorem eq_value (a1 a2 : Bool) (d1 d2 : List UInt8) (p1 p2 : Int) (w : World) :
    (binOp .eql 190 (.agg #[.bool a1, .string (bs d1), .int .i64 p1]) (.agg #[.bool a2, .string (bs d2), .int .i64 p2])).run Tryz.prog w = .ok (.bool (decide ((⟨a1, d1, p1⟩ : V) = ⟨a2, d2, p2⟩))) w := by
  have hS : Tryz.prog.underlying 190 = some (.struct (Tryz.prog.fieldsOf 190)) := by kernel_rfl
  have hp : Tryz.prog.stoodInHeld 190 = false := by kernel_rfl
  have u3 := Tryz.underlying3
  have u4 := Tryz.underlying4
  have u9 := Tryz.underlying9
  rw [run_eql_struct, show (10000 : Nat) = 9999 + 1 from rfl, run_equalIn_agg w 9999 190 _ _ hS hp]
  simp only [Program.fieldsOf, Tryz.underlying190]
  go_simp
  have e : ((bs d1).toList == (bs d2).toList) = decide (d1 = d2) := by
    rw [Lib.toList_data, Lib.toList_data, bs_list, bs_list]
    by_cases h : d1 = d2 <;> simp [h]
  by_cases h1 : a1 = a2 <;> by_cases h2 : d1 = d2 <;> by_cases h3 : p1 = p2 <;> simp [h1, h2, h3, e]
  all_goals (rw [Lib.toList_data, Lib.toList_data, bs_list, bs_list]; exact h2)
set_option maxHeartbeats 400000 in
theorem Same_nn (a b : ByteArray) (w : World) (HM : Hid (ML w))
    (H1 : Hid (∀ W, ML W → Calls Tryz.prog 153 #[.string a] W fun e w' => e = .returned (.tuple #[vOf none, .bool false]) ∧ Below W.heap.size W w'))
    (H2 : Hid (∀ W, ML W → Calls Tryz.prog 153 #[.string b] W fun e w' => e = .returned (.tuple #[vOf none, .bool false]) ∧ Below W.heap.size W w')) :
    Calls Tryz.prog 103 #[.string a, .string b] w fun e w' => e = .returned (.bool false) ∧ Below w.heap.size w w' := by
  simp only [vOf] at H1 H2
  go_enter Tryz.func103, Tryz.ntmps103
  go_wp2_with fail
  refine (H1.out _ HM.out).mono ?_
  rintro e w1 ⟨rfl, hb⟩
  have HB := Lib.hid hb
  have HM1 := Lib.hid (HM.out.on hb)
  clear hb
  go_wp2_with fail
  refine (H2.out _ (ML.on HM1.out ((Below.refl _ _).alloc (Nat.le_refl _) _))).mono ?_
  rintro e w2 ⟨rfl, hb⟩
  have hz : w1.heap.size < w2.heap.size := by have := hb.size; simp at this; omega
  have HB2 := Lib.hid ((HB.out.alloc HB.out.size _).trans (hb.mono (by simp; have := HB.out.size; omega)))
  clear hb
  go_wp2
  go_ret
  exact ⟨rfl, HB2.out.alloc HB2.out.size _⟩
set_option maxHeartbeats 400000 in
theorem Same_ns (a b : ByteArray) (y : V) (w : World) (HM : Hid (ML w))
    (H1 : Hid (∀ W, ML W → Calls Tryz.prog 153 #[.string a] W fun e w' => e = .returned (.tuple #[vOf none, .bool false]) ∧ Below W.heap.size W w'))
    (H2 : Hid (∀ W, ML W → Calls Tryz.prog 153 #[.string b] W fun e w' => e = .returned (.tuple #[vOf (some y), .bool true]) ∧ Below W.heap.size W w')) :
    Calls Tryz.prog 103 #[.string a, .string b] w fun e w' => e = .returned (.bool false) ∧ Below w.heap.size w w' := by
  simp only [vOf] at H1 H2
  obtain ⟨yb, yd, yp⟩ := y
  go_enter Tryz.func103, Tryz.ntmps103
  go_wp2_with fail
  refine (H1.out _ HM.out).mono ?_
  rintro e w1 ⟨rfl, hb⟩
  have HB := Lib.hid hb
  have HM1 := Lib.hid (HM.out.on hb)
  clear hb
  go_wp2_with fail
  refine (H2.out _ (ML.on HM1.out ((Below.refl _ _).alloc (Nat.le_refl _) _))).mono ?_
  rintro e w2 ⟨rfl, hb⟩
  have hz : w1.heap.size < w2.heap.size := by have := hb.size; simp at this; omega
  have HB2 := Lib.hid ((HB.out.alloc HB.out.size _).trans (hb.mono (by simp; have := HB.out.size; omega)))
  clear hb
  go_wp2
  go_ret
  exact ⟨rfl, HB2.out.alloc HB2.out.size _⟩
set_option maxHeartbeats 400000 in
theorem Same_sn (a b : ByteArray) (x : V) (w : World) (HM : Hid (ML w))
    (H1 : Hid (∀ W, ML W → Calls Tryz.prog 153 #[.string a] W fun e w' => e = .returned (.tuple #[vOf (some x), .bool true]) ∧ Below W.heap.size W w'))
    (H2 : Hid (∀ W, ML W → Calls Tryz.prog 153 #[.string b] W fun e w' => e = .returned (.tuple #[vOf none, .bool false]) ∧ Below W.heap.size W w')) :
    Calls Tryz.prog 103 #[.string a, .string b] w fun e w' => e = .returned (.bool false) ∧ Below w.heap.size w w' := by
  simp only [vOf] at H1 H2
  obtain ⟨xb, xd, xp⟩ := x
  go_enter Tryz.func103, Tryz.ntmps103
  go_wp2_with fail
  refine (H1.out _ HM.out).mono ?_
  rintro e w1 ⟨rfl, hb⟩
  have HB := Lib.hid hb
  have HM1 := Lib.hid (HM.out.on hb)
  clear hb
  go_wp2_with fail
  refine (H2.out _ (ML.on HM1.out ((Below.refl _ _).alloc (Nat.le_refl _) _))).mono ?_
  rintro e w2 ⟨rfl, hb⟩
  have hz : w1.heap.size < w2.heap.size := by have := hb.size; simp at this; omega
  have HB2 := Lib.hid ((HB.out.alloc HB.out.size _).trans (hb.mono (by simp; have := HB.out.size; omega)))
  clear hb
  go_wp2
  go_ret
  exact ⟨rfl, HB2.out.alloc HB2.out.size _⟩
set_option maxHeartbeats 400000 in
theorem Same_ss (a b : ByteArray) (x : V) (y : V) (w : World) (HM : Hid (ML w))
    (H1 : Hid (∀ W, ML W → Calls Tryz.prog 153 #[.string a] W fun e w' => e = .returned (.tuple #[vOf (some x), .bool true]) ∧ Below W.heap.size W w'))
    (H2 : Hid (∀ W, ML W → Calls Tryz.prog 153 #[.string b] W fun e w' => e = .returned (.tuple #[vOf (some y), .bool true]) ∧ Below W.heap.size W w')) :
    Calls Tryz.prog 103 #[.string a, .string b] w fun e w' => e = .returned (.bool (decide (x = y))) ∧ Below w.heap.size w w' := by
  simp only [vOf] at H1 H2
  obtain ⟨xb, xd, xp⟩ := x
  obtain ⟨yb, yd, yp⟩ := y
  have heq := eq_value xb yb xd yd xp yp
  generalize decide ((⟨xb, xd, xp⟩ : V) = ⟨yb, yd, yp⟩) = r at *
  have HE := Lib.hid heq
  clear heq
  go_enter Tryz.func103, Tryz.ntmps103
  go_wp2_with fail
  refine (H1.out _ HM.out).mono ?_
  rintro e w1 ⟨rfl, hb⟩
  have HB := Lib.hid hb
  have HM1 := Lib.hid (HM.out.on hb)
  clear hb
  go_wp2_with fail
  refine (H2.out _ (ML.on HM1.out ((Below.refl _ _).alloc (Nat.le_refl _) _))).mono ?_
  rintro e w2 ⟨rfl, hb⟩
  have k0 : w2.cell? ⟨w1.heap.size, 0, none⟩ = some (.bool xb) := (hb.cell (p := ⟨w1.heap.size, 0, none⟩) (by simp)).trans (by rw [cell_of_row _ _ 0 _ _ _ (heap_alloc_new w1 _)]; rfl)
  have k1 : w2.cell? ⟨w1.heap.size, 1, none⟩ = some (.string (bs xd)) := (hb.cell (p := ⟨w1.heap.size, 1, none⟩) (by simp)).trans (by rw [cell_of_row _ _ 1 _ _ _ (heap_alloc_new w1 _)]; rfl)
  have k2 : w2.cell? ⟨w1.heap.size, 2, none⟩ = some (.int .i64 xp) := (hb.cell (p := ⟨w1.heap.size, 2, none⟩) (by simp)).trans (by rw [cell_of_row _ _ 2 _ _ _ (heap_alloc_new w1 _)]; rfl)
  have heq := HE.out
  have hz : w1.heap.size < w2.heap.size := by have := hb.size; simp at this; omega
  have HB2 := Lib.hid ((HB.out.alloc HB.out.size _).trans (hb.mono (by simp; have := HB.out.size; omega)))
  clear hb
  go_wp2
  go_ret
  exact ⟨rfl, HB2.out.alloc HB2.out.size _⟩
/-- number.Same. -/
theorem Same_any (a b : ByteArray) (la lb : List UInt8) (ha : a.data.toList = la) (hb : b.data.toList = lb) (w : World) (hM : ML w) (hla : la.length < 4294967281) (hlb : lb.length < 4294967281) :
    Calls Tryz.prog 103 #[.string a, .string b] w fun e w' => e = .returned (.bool (same la lb)) ∧ Below w.heap.size w w' := by
  have H1 := Lib.hid (fun W (hW : ML W) => of_any a la ha W hW hla)
  have H2 := Lib.hid (fun W (hW : ML W) => of_any b lb hb W hW hlb)
  unfold same
  generalize ofS la = x at *
  generalize ofS lb = y at *
  cases x <;> cases y
  · exact Same_nn a b w (Lib.hid hM) H1 H2
  · exact Same_ns a b _ w (Lib.hid hM) H1 H2
  · exact Same_sn a b _ w (Lib.hid hM) H1 H2
  · exact Same_ss a b _ _ w (Lib.hid hM) H1 H2
end Go.Proofs.YtfploakafbnigaaGreatDoor
namespace Go.Proofs.YtfploakafbnigaaGreatDoor
open Go.RowKit Num
set_option linter.unusedVariables false
set_option linter.unusedSimpArgs false
theorem Repeat_nought (p : Nat) (w : World) (hp : p ≤ 100) :
    Calls Tryz.prog 182 #[.string ⟨#[48]⟩, .int .i64 p] w fun e w' => e = .returned (.string (bs (List.replicate p 48))) ∧ Below w.heap.size w w' := by
  refine (Tryz.strings_Repeat ⟨#[48]⟩ p w (by omega) (by rw [show (ByteArray.mk #[48]).size = 1 from rfl]; omega)).mono ?_
  rintro e w' ⟨rfl, hb⟩
  refine ⟨?_, hb⟩
  have := Lib.repeatL_replicate 48 1 p
  rw [Nat.mul_one] at this
  rw [show (ByteArray.mk #[48]).data.toList = List.replicate 1 48 from rfl, this]; rfl
/-- the same, where a number's value lies in block g. -/
theorem Repeat_keeps (p : Nat) (hp : p ≤ 100) (g : Nat) (a b c : Value) (W : World) (h : VB W g a b c) :
    Calls Tryz.prog 182 #[.string ⟨#[48]⟩, .int .i64 p] W fun e w' => e = .returned (.string (bs (List.replicate p 48))) ∧ Hid (Below W.heap.size W w') ∧ Hid (VB w' g a b c) ∧ w'.cell? ⟨g, 1, none⟩ = some b ∧ w'.cell? ⟨g, 2, none⟩ = some c := by
  refine (Repeat_nought p W hp).mono ?_
  rintro e w' ⟨rfl, hb⟩
  have hv := h.on hb
  exact ⟨rfl, Lib.hid hb, Lib.hid hv, hv.c1, hv.c2⟩
theorem digs_of {l : List UInt8} {v : V} (h : ofS l = some v) : Digs v.digits := by
  unfold ofS at h
  split at h
  · rename_i hk
    unfold Num.valOf at h
    split at h
    · obtain rfl := Option.some.inj h
      intro x hx; cases hx
    · split at h
      · cases h
      · obtain rfl := Option.some.inj h
        have := (whole_digs hk).2
        intro x hx
        have hx' : x ∈ trimR (digsOf (mantOf (plainOf l))) [48] := hx
        unfold trimR at hx'
        rw [List.mem_reverse] at hx'
        have h2 := (List.dropWhile_sublist ([48].contains ·)).subset hx'
        rw [List.mem_reverse] at h2
        exact this x h2
  · cases h
theorem decV_snoc (l : List UInt8) (c : UInt8) : decV (l ++ [c]) = decV l * 10 + (c.toNat - 48) := by
  unfold decV; rw [List.foldl_append]; rfl
theorem take_snoc' (l : List UInt8) (k : Nat) (h : k < l.length) : l.take (k + 1) = l.take k ++ [l[k]] := by
  rw [List.take_add_one, List.getElem?_eq_getElem h]; rfl
set_option maxRecDepth 100000 in
set_option maxHeartbeats 1000000 in
theorem Int_walk (s : ByteArray) (bl : Bool) (dg : List UInt8) (p : Nat) (R : Int × Bool) (hR : Hid (intV ⟨bl, dg, p⟩ = R)) (w : World) (HM : Hid (ML w)) (hd : Digs dg) (hp : p ≤ 16) (hpl : dg.length + p ≤ 16)
    (H1 : Hid (∀ W, ML W → Calls Tryz.prog 153 #[.string s] W fun e w' => e = .returned (.tuple #[.agg #[.bool bl, .string (bs dg), .int .i64 p], .bool true]) ∧ Below W.heap.size W w')) :
    Calls Tryz.prog 136 #[.string s] w fun e w' => e = .returned (.tuple #[.int .i64 R.1, .bool R.2]) ∧ Below w.heap.size w w' := by
  have hss := bs_size dg
  have hsz : (bs dg).size ≤ 16 := by omega
  have hsum : (((bs dg).size : Int) + (p : Int)) ≤ 16 := by omega
  have C2 := Lib.hid (fun g a b c W h => Repeat_keeps p (by omega) g a b c W h)
  have hcat : (bs dg).size + (bs (List.replicate p 48)).size ≤ 9223372036854775807 := by rw [bs_size, bs_size, List.length_replicate]; omega
  have hadd : ∀ W, (binOp .add 9 (.string (bs dg)) (.string (bs (List.replicate p 48)))).run Tryz.prog W = .ok (.string (bs dg ++ bs (List.replicate p 48))) W := fun W => by rw [binOp_string_add, run_string_add_sum W _ _ hcat]
  have q1 : decide ((p : Int) < 0) = false := by simp
  have q2 : decide ((16 : Int) < (p : Int)) = false := by simp; omega
  have q2' : decide (16 < p) = false := by simp; omega
  have q3 : decide ((16 : Int) < ((bs dg).size : Int) + (p : Int)) = false := by simp; omega
  have HD := Lib.hid hd
  have HS := Lib.hid hss
  clear hd hss hpl
  go_enter Tryz.func136, Tryz.ntmps136
  go_wp2_with fail
  refine (H1.out _ HM.out).mono ?_
  rintro e w1 ⟨rfl, hb⟩
  have HB := Lib.hid hb
  clear hb
  go_upto_region 4 with fail
  have k0 : (w1.alloc (.cells #[.bool bl, .string (bs dg), .int .i64 p] 190)).cell? ⟨w1.heap.size, 0, none⟩ = some (.bool bl) := by rw [cell_of_row _ _ 0 _ _ _ (heap_alloc_new w1 _)]; rfl
  have k1 : (w1.alloc (.cells #[.bool bl, .string (bs dg), .int .i64 p] 190)).cell? ⟨w1.heap.size, 1, none⟩ = some (.string (bs dg)) := by rw [cell_of_row _ _ 1 _ _ _ (heap_alloc_new w1 _)]; rfl
  have k2 : (w1.alloc (.cells #[.bool bl, .string (bs dg), .int .i64 p] 190)).cell? ⟨w1.heap.size, 2, none⟩ = some (.int .i64 p) := by rw [cell_of_row _ _ 2 _ _ _ (heap_alloc_new w1 _)]; rfl
  go_cut [39] (fun s39 wx => ∃ B : Nat, s39 = .pointer (some ⟨B, 0, none⟩) ∧ wx.heap[B]? = some (.stringIter (bs dg ++ bs (List.replicate p 48)) 0) ∧ w1.heap.size < B ∧ wx.cell? ⟨w1.heap.size, 0, none⟩ = some (.bool bl) ∧ Below w.heap.size w wx)
  case first =>
    go_region_with (go_at_call 182; refine (C2.out w1.heap.size (.bool bl) _ _ _ (by exact heap_alloc_new w1 _)).mono ?_; rintro e w' ⟨rfl, hb, hv, r1, r2⟩)
    all_goals
      go_wp2_with fail
      go_meet
      have hbw : Below w.heap.size w w' := ((HB.out.alloc HB.out.size (.cells #[.bool bl, .string (bs dg), .int .i64 p] 190)).drew).trans (hb.out.mono (by simp; have := HB.out.size; omega))
      exact ⟨w'.heap.size, rfl, World.iter_heap _ _ _, by have := hb.out.size; simp at this; omega, ((VB.on hv.out (by exact (Below.refl _ _).alloc (Nat.le_refl _) _) : VB (w'.iter _ _) _ _ _ _)).c0, hbw.alloc hbw.size _⟩
  case rest =>
    obtain ⟨B, rfl, hit, hB, k0', hbw⟩ := hcut
    clear k0 k1 k2
    have hD : bs dg ++ bs (List.replicate p 48) = bs (dg ++ List.replicate p 48) := ByteArray.mk_append_mk _ _
    rw [hD] at hit
    have hdD : Digs (dg ++ List.replicate p 48) := digs_append HD.out (fun x hx => by rw [(List.mem_replicate.1 hx).2]; rfl)
    have hlD : (dg ++ List.replicate p 48).length ≤ 16 := by rw [List.length_append, List.length_replicate, ← HS.out]; omega
    have HIV : Hid (intV ⟨bl, dg, p⟩ = if 9007199254740991 < decV (dg ++ List.replicate p 48) then (0, false) else if bl then (-(decV (dg ++ List.replicate p 48) : Int), true) else (decV (dg ++ List.replicate p 48), true)) := by
      refine Lib.hid ?_
      unfold intV intN
      rw [if_neg (by show ¬ ((p : Int) < 0 ∨ 16 < (p : Int) ∨ 16 < (dg.length : Int) + (p : Int)); rw [← HS.out]; omega)]
      rfl
    generalize dg ++ List.replicate p 48 = D at *
    have hDs := bs_size D
    have HDS := Lib.hid hDs
    have HDD := Lib.hid hdD
    clear hDs hdD hD hcat q1 q2 q2' q3 hsum C2 HS HD
    go_wp2
    go_loopw [2] (fun n wr => ∃ pos : Nat, pos ≤ D.length ∧ n = .int .i64 (decV (D.take pos)) ∧ wr.heap[B]? = some (.stringIter (bs D) pos) ∧ wr.cell? ⟨w1.heap.size, 0, none⟩ = some (.bool bl) ∧ Below w.heap.size w wr) (fun _ wr => D.length - wr.iterPos B)
    case atStart => exact ⟨0, Nat.zero_le _, rfl, hit, k0', hbw⟩
    case round =>
      obtain ⟨pos, hps, rfl, hk, hc0, hbr⟩ := hrel
      clear hit k0' hbw
      have hmu : wr.iterPos B = pos := by simp [World.iterPos, hk]
      by_cases hp : pos < D.length
      · have hdg := isD_range (HDD.out _ (List.getElem_mem hp))
        have hnext : ∀ ty, (Instr.next (.pointer (some ⟨B, 0, none⟩)) true ty).run Tryz.prog wr = .ok (.tuple #[.bool true, .int .i64 pos, .int .i32 (D[pos].toNat)]) (wr.iterAt B (bs D) (pos + 1)) := fun ty => Lib.run_next_ascii_at wr B (bs D) pos ty hk (by rw [HDS.out]; exact hp) (by show D[pos].toNat < 128; omega)
        have hk1 := Lib.iterAt_heap wr B (bs D) pos (pos + 1) hk
        have hn1 : Below w.heap.size w (wr.iterAt B (bs D) (pos + 1)) := Lib.below_iterAt hbr (by have := HB.out.size; omega) (bs D) (pos + 1)
        have hc1 : (wr.iterAt B (bs D) (pos + 1)).cell? ⟨w1.heap.size, 0, none⟩ = some (.bool bl) := by
          rw [← hc0]
          have : B ≠ w1.heap.size := by omega
          simp [World.cell?, World.iterAt, Array.getElem?_modify, this]
        have hmu1 : (wr.iterAt B (bs D) (pos + 1)).iterPos B = pos + 1 := by simp [World.iterPos, hk1]
        have HV : Hid (decV (D.take (pos + 1)) = decV (D.take pos) * 10 + (D[pos].toNat - 48)) := Lib.hid (by rw [take_snoc' D pos hp, decV_snoc])
        have hlt := decV_lt (D.take pos) (fun x hx => HDD.out x (List.mem_of_mem_take hx)) 16 (by rw [List.length_take]; omega)
        have HMU := Lib.hid hmu
        have HMU1 := Lib.hid hmu1
        clear hmu hmu1 hk hc0 hbr
        generalize wr.iterAt B (bs D) (pos + 1) = W1 at *
        generalize D[pos].toNat = c at *
        generalize decV (D.take pos) = n at *
        have h1 : (48 : Int) ≤ c := by omega
        have h2 : (c : Int) ≤ 57 := by omega
        have h3 : (n : Int) ≤ 10000000000000000 := by omega
        have h4 : (0 : Int) ≤ n := by omega
        clear hlt hdg
        go_wp2
        go_roundw
        case rel => exact ⟨pos + 1, hp, by rw [HV.out]; congr 1; omega, hk1, hc1, hn1⟩
        case measure => rw [HMU.out, HMU1.out]; omega
      · obtain rfl : pos = D.length := by omega
        have hnext : ∀ ty, (Instr.next (.pointer (some ⟨B, 0, none⟩)) true ty).run Tryz.prog wr = .ok (.tuple #[.bool false]) wr := fun ty => Lib.run_next_end_at wr B (bs D) D.length ty hk (by rw [HDS.out]; omega)
        have hlt := decV_lt D HDD.out 16 hlD
        rw [List.take_length]
        have HBR := Lib.hid hbr
        clear hbr hmu
        generalize decV D = n at *
        have h3 : (n : Int) ≤ 10000000000000000 := by omega
        have h4 : (0 : Int) ≤ n := by omega
        clear hlt
        by_cases hbig : 9007199254740991 < n
        · have hb1 : decide ((9007199254740991 : Int) < (n : Int)) = true := by simp; omega
          have hb2 : decide (9007199254740991 < n) = true := by simp; omega
          obtain rfl : R = (0, false) := by rw [← hR.out, HIV.out, if_pos hbig]
          clear hbig
          go_wp2
          go_ret2
          exact ⟨rfl, HBR.out⟩
        · have hb1 : decide ((9007199254740991 : Int) < (n : Int)) = false := by simp; omega
          have hb2 : decide (9007199254740991 < n) = false := by simp; omega
          cases bl
          · obtain rfl : R = ((n : Int), true) := by rw [← hR.out, HIV.out, if_neg hbig]; rfl
            clear hbig
            go_wp2
            go_ret2
            exact ⟨rfl, HBR.out⟩
          · obtain rfl : R = (-(n : Int), true) := by rw [← hR.out, HIV.out, if_neg hbig]; rfl
            clear hbig
            go_wp2
            go_ret2
            exact ⟨rfl, HBR.out⟩
set_option maxRecDepth 100000 in
set_option maxHeartbeats 400000 in
/-- what is no number, or has no value -/
theorem Int_none (s : ByteArray) (w : World) (HM : Hid (ML w))
    (H1 : Hid (∀ W, ML W → Calls Tryz.prog 153 #[.string s] W fun e w' => e = .returned (.tuple #[.agg #[.bool false, .string (bs []), .int .i64 0], .bool false]) ∧ Below W.heap.size W w')) :
    Calls Tryz.prog 136 #[.string s] w fun e w' => e = .returned (.tuple #[.int .i64 0, .bool false]) ∧ Below w.heap.size w w' := by
  go_enter Tryz.func136, Tryz.ntmps136
  go_wp2_with fail
  refine (H1.out _ HM.out).mono ?_
  rintro e w1 ⟨rfl, hb⟩
  go_wp2
  go_ret2
  exact ⟨rfl, hb.alloc hb.size _⟩
set_option maxRecDepth 100000 in
set_option maxHeartbeats 400000 in
/-- what is not whole, or too long -/
theorem Int_out (s : ByteArray) (bl : Bool) (dg : List UInt8) (p : Int) (w : World) (HM : Hid (ML w)) (hsz : dg.length < 4294967281) (h : p < 0 ∨ 16 < p ∨ 16 < (dg.length : Int) + p)
    (H1 : Hid (∀ W, ML W → Calls Tryz.prog 153 #[.string s] W fun e w' => e = .returned (.tuple #[.agg #[.bool bl, .string (bs dg), .int .i64 p], .bool true]) ∧ Below W.heap.size W w')) :
    Calls Tryz.prog 136 #[.string s] w fun e w' => e = .returned (.tuple #[.int .i64 0, .bool false]) ∧ Below w.heap.size w w' := by
  have hz : (bs dg).size < 4294967281 := by rw [bs_size]; exact hsz
  have h' : p < 0 ∨ 16 < p ∨ 16 < ((bs dg).size : Int) + p := by rw [bs_size]; exact h
  clear h hsz
  by_cases h1 : p < 0
  · clear h'
    go_enter Tryz.func136, Tryz.ntmps136
    go_wp2_with fail
    refine (H1.out _ HM.out).mono ?_
    rintro e w1 ⟨rfl, hb⟩
    go_wp2
    go_ret2
    exact ⟨rfl, hb.alloc hb.size _⟩
  · have q1 : decide (p < 0) = false := by simp; omega
    have h1' : 0 ≤ p := by omega
    by_cases h2 : 16 < p
    · have q2 : decide (16 < p) = true := by simp; omega
      clear h' h1
      go_enter Tryz.func136, Tryz.ntmps136
      go_wp2_with fail
      refine (H1.out _ HM.out).mono ?_
      rintro e w1 ⟨rfl, hb⟩
      go_wp2
      go_ret2
      exact ⟨rfl, hb.alloc hb.size _⟩
    · have h3 : 16 < ((bs dg).size : Int) + p := by omega
      have q2 : decide (16 < p) = false := by simp; omega
      have q3 : decide (16 < ((bs dg).size : Int) + p) = true := by simp; omega
      have h2' : p ≤ 16 := by omega
      clear h' h1 h2
      go_enter Tryz.func136, Tryz.ntmps136
      go_wp2_with fail
      refine (H1.out _ HM.out).mono ?_
      rintro e w1 ⟨rfl, hb⟩
      go_wp2
      go_ret2
      exact ⟨rfl, hb.alloc hb.size _⟩
theorem valOf_len {l : List UInt8} {v : V} (h : ofS l = some v) : v.digits.length ≤ l.length := by
  unfold ofS at h
  split at h
  · unfold Num.valOf at h
    split at h
    · obtain rfl := Option.some.inj h
      simp
    · split at h
      · cases h
      · obtain rfl := Option.some.inj h
        have h1 := trimR_le (digsOf (mantOf (plainOf l))) [48]
        have h2 := digsOf_le (mantOf (plainOf l))
        have h3 := mant_le (plainOf l)
        have h4 : (plainOf l).length ≤ l.length := by unfold plainOf; split <;> simp
        show (trimR (digsOf (mantOf (plainOf l))) [48]).length ≤ l.length
        omega
  · cases h
/-- number.Int. -/
theorem Int_any (s : ByteArray) (l : List UInt8) (h : s.data.toList = l) (w : World) (hM : ML w) (hl : l.length < 4294967281) :
    Calls Tryz.prog 136 #[.string s] w fun e w' => e = .returned (.tuple #[.int .i64 (int l).1, .bool (int l).2]) ∧ Below w.heap.size w w' := by
  have H1 := Lib.hid (fun W (hW : ML W) => of_any s l h W hW hl)
  unfold int
  cases hv : ofS l with
  | none =>
    rw [hv] at H1
    exact Int_none s w (Lib.hid hM) H1
  | some v =>
    have hd := digs_of hv
    have hlen := valOf_len hv
    rw [hv] at H1
    obtain ⟨bl, dg, p⟩ := v
    simp only [vOf, Option.isSome_some] at H1 hd hlen ⊢
    by_cases hp : p < 0 ∨ 16 < p ∨ 16 < (dg.length : Int) + p
    · have e : intV ⟨bl, dg, p⟩ = (0, false) := by unfold intV; rw [if_pos hp]
      rw [e]
      exact Int_out s bl dg p w (Lib.hid hM) (by omega) hp H1
    · obtain ⟨q, rfl⟩ := Int.eq_ofNat_of_zero_le (show 0 ≤ p by omega)
      exact Int_walk s bl dg q _ (Lib.hid rfl) w (Lib.hid hM) hd (by omega) (by omega) H1
end Go.Proofs.YtfploakafbnigaaGreatDoor
namespace Go.Proofs.YtfploakafbnigaaGreatDoor
open Go.RowKit Num
set_option linter.unusedVariables false
set_option linter.unusedSimpArgs false
def cellsOf (l : List UInt8) : List Value := l.map fun b => .int .u8 (b.toNat : Int)
end Go.Proofs.YtfploakafbnigaaGreatDoor
namespace Go.Proofs.YtfploakafbnigaaGreatDoor.Num
set_option linter.unusedVariables false
set_option linter.unusedSimpArgs false
/-- no digit goes on with it -/
def NoD (t : List UInt8) : Prop := ∀ c, t.head? = some c → isD c = false
theorem takeWhile_to {r t : List UInt8} (hr : Digs r) (ht : NoD t) : (r ++ t).takeWhile isD = r := by
  rw [(takeWhile_all (p := isD) (r := t) hr).1]
  cases t with
  | nil => simp
  | cons c t => rw [List.takeWhile_cons, ht c rfl]; simp
theorem run_to {l : List UInt8} {i : Nat} {r t : List UInt8} (h : l.drop i = r ++ t) (hr : Digs r) (ht : NoD t) : run (l.drop i) = r.length := by
  unfold run; rw [h, takeWhile_to hr ht]
theorem digTo_to {l : List UInt8} {i : Nat} {r t : List UInt8} (h : l.drop i = r ++ t) (hr : Digs r) (ht : NoD t) : digTo l i = i + r.length := by
  unfold digTo; rw [run_to h hr ht]
theorem digErr_to {l : List UInt8} {i : Nat} {r t : List UInt8} (h : l.drop i = r ++ t) (hr : Digs r) (ht : NoD t) (hne : r ≠ []) : digErr l i = 0 := by
  unfold digErr; rw [run_to h hr ht, if_pos (List.length_pos_iff.2 hne)]
theorem drop_add {l : List UInt8} {i : Nat} {r t : List UInt8} (h : l.drop i = r ++ t) : l.drop (i + r.length) = t := by
  rw [← List.drop_drop, h, List.drop_left]
theorem expo_to {l : List UInt8} {i : Nat} {x t : List UInt8} (h : l.drop i = x ++ t) (hx : ExpF x) (h0 : x = [] → ∀ c, t.head? = some c → [101, 69].contains c = false) (h1 : x ≠ [] → NoD t) : expo l i = (i + x.length, 0) := by
  unfold expo
  rcases hx with e | ⟨c, s, r, e, hc, hs, hr0, hr⟩
  · subst e
    rw [if_neg]
    · rfl
    · rw [hasAt_drop, h]
      cases t with
      | nil => simp
      | cons c t => simpa using h0 rfl c rfl
  · have hc' : [101, 69].contains c = true := by rcases isE_or hc with k | k <;> subst k <;> rfl
    have ht := h1 (by rw [e]; simp)
    subst e
    have e1 : hasAt l i [101, 69] = true := by rw [hasAt_drop, h]; exact hc'
    rw [if_pos e1]
    have d1 : l.drop (i + 1) = s ++ (r ++ t) := by
      have := drop_add (r := [c]) (t := s ++ (r ++ t)) (by rw [h]; simp)
      exact this
    have d2 : skipTo l (i + 1) [43, 45] = i + 1 + s.length := by
      unfold skipTo
      rcases hs with k | k | k <;> subst k
      · have : hasAt l (i + 1) [43, 45] = false := by
          rw [hasAt_drop, d1]
          cases r with
          | nil => exact absurd rfl hr0
          | cons y r =>
            have hy := hr y (List.mem_cons_self ..)
            show [43, 45].contains y = false
            cases e : [43, 45].contains y
            · rfl
            · have k : y = 43 ∨ y = 45 := by simpa using e
              rcases k with k | k <;> subst k <;> cases hy
        rw [this]; rfl
      · have : hasAt l (i + 1) [43, 45] = true := by rw [hasAt_drop, d1]; rfl
        rw [this]; rfl
      · have : hasAt l (i + 1) [43, 45] = true := by rw [hasAt_drop, d1]; rfl
        rw [this]; rfl
    have d3 : l.drop (i + 1 + s.length) = r ++ t := drop_add d1
    rw [d2, digTo_to d3 hr ht, digErr_to d3 hr ht hr0]
    simp only [List.length_cons, List.length_append]
    congr 1
    omega
theorem frac_to {l : List UInt8} {i : Nat} {f x t : List UInt8} (h : l.drop i = f ++ (x ++ t)) (hf : FracF f) (hx : ExpF x)
    (hd : f = [] → ∀ c, (x ++ t).head? = some c → c ≠ 46) (hn : f ≠ [] → NoD (x ++ t)) (h0 : x = [] → ∀ c, t.head? = some c → [101, 69].contains c = false) (h1 : x ≠ [] → NoD t) : frac l i = (i + f.length + x.length, 0) := by
  unfold frac
  rcases hf with e | ⟨r, e, hr0, hr⟩
  · subst e
    have : hasAt l i [46] = false := by
      rw [hasAt_drop, h]
      cases k : (x ++ t) with
      | nil => simp [k]
      | cons c u =>
        have := hd rfl c (by rw [k]; rfl)
        simpa [k] using this
    rw [this, if_neg (by decide), expo_to (x := x) (t := t) (by rw [h]; rfl) hx h0 h1]
    rfl
  · have hne : f ≠ [] := by rw [e]; simp
    have hN := hn hne
    subst e
    have e1 : hasAt l i [46] = true := by rw [hasAt_drop, h]; rfl
    have d1 : l.drop (i + 1) = r ++ (x ++ t) := drop_add (r := [46]) (t := r ++ (x ++ t)) (by rw [h]; simp)
    rw [if_pos e1, if_pos (digErr_to d1 hr hN hr0), digTo_to d1 hr hN, expo_to (drop_add d1) hx h0 h1]
    simp only [List.length_cons]
    congr 1
    omega
def HeadF (a : List UInt8) : Prop := a ≠ [] ∧ Digs a ∧ (a = [48] ∨ a.head? ≠ some 48)
theorem noD_exp {x t : List UInt8} (hx : ExpF x) (h : x = [] → NoD t) : NoD (x ++ t) := by
  rcases hx with e | ⟨c, s, r, e, hc, _⟩
  · subst e; exact h rfl
  · subst e
    intro y hy
    have : y = c := by simpa using hy.symm
    subst this
    rcases isE_or hc with k | k <;> subst k <;> rfl
/-- the number's own walk, at a text of a number's form that stands at a place -/
theorem num_to {l : List UInt8} {i : Nat} {g a f x t : List UInt8} (h : l.drop i = g ++ (a ++ (f ++ (x ++ t)))) (hg : NegF g) (ha : HeadF a) (hf : FracF f) (hx : ExpF x) (ht : NoD t)
    (hq : x = [] → t = []) : numF l i = (i + g.length + a.length + f.length + x.length, 0) := by
  have hN := noD_exp hx (fun _ => ht)
  have h0 : x = [] → ∀ c, t.head? = some c → [101, 69].contains c = false := fun e c hc => by rw [hq e] at hc; cases hc
  have hd : f = [] → ∀ c, (x ++ t).head? = some c → c ≠ 46 := fun _ c hc => by
    rcases hx with e | ⟨y, s, r, e, hy, _⟩
    · rw [e, hq e] at hc; cases hc
    · subst e
      have : c = y := by simpa using hc.symm
      subst this
      rcases isE_or hy with k | k <;> subst k <;> decide
  have hNf : NoD (f ++ (x ++ t)) := by
    rcases hf with e | ⟨r, e, _⟩
    · subst e; exact hN
    · subst e
      intro y hy
      have : y = 46 := by simpa using hy.symm
      subst this; rfl
  unfold numF
  have hs : skipTo l i [45] = i + g.length := by
    unfold skipTo
    rcases hg with k | k <;> subst k
    · have : hasAt l i [45] = false := by
        rw [hasAt_drop, h]
        obtain ⟨ha0, ha1, _⟩ := ha
        cases a with
        | nil => exact absurd rfl ha0
        | cons y a =>
          have hy := ha1 y (List.mem_cons_self ..)
          show [45].contains y = false
          cases e : [45].contains y
          · rfl
          · have k : y = 45 := by simpa using e
            subst k; cases hy
      rw [this]; rfl
    · have : hasAt l i [45] = true := by rw [hasAt_drop, h]; rfl
      rw [this]; rfl
  have d1 : l.drop (i + g.length) = a ++ (f ++ (x ++ t)) := drop_add h
  rw [hs]
  by_cases h48 : a.head? = some 48
  · have ha' : a = [48] := by
      rcases ha.2.2 with k | k
      · exact k
      · exact absurd h48 k
    subst ha'
    have e1 : hasAt l (i + g.length) [48] = true := by rw [hasAt_drop, d1]; rfl
    rw [if_pos e1, show i + g.length + 1 = i + g.length + [(48 : UInt8)].length from rfl, frac_to (drop_add d1) hf hx hd (fun _ => hN) h0 (fun _ => ht)]
  · have e1 : ¬ hasAt l (i + g.length) [48] = true := by
      rw [hasAt_drop, d1]
      obtain ⟨ha0, _, _⟩ := ha
      cases a with
      | nil => exact absurd rfl ha0
      | cons y a => simpa using h48
    rw [if_neg e1, if_pos (digErr_to d1 ha.2.1 hNf ha.1), digTo_to d1 ha.2.1 hNf, frac_to (drop_add d1) hf hx hd (fun _ => hN) h0 (fun _ => ht)]
theorem checkN_to {l : List UInt8} {i : Nat} {g a f x t : List UInt8} (h : l.drop i = g ++ (a ++ (f ++ (x ++ t)))) (hg : NegF g) (ha : HeadF a) (hf : FracF f) (hx : ExpF x) (ht : NoD t)
    (hq : x = [] → t = []) : checkN l i = (i + g.length + a.length + f.length + x.length, 0) := by
  unfold checkN
  rw [num_to h hg ha hf hx ht hq]; rfl
theorem noD_nil : NoD [] := fun _ h => by cases h
/-- the value of such a text -/
theorem of_form {g a f x : List UInt8} (hg : NegF g) (ha : HeadF a) (hf : FracF f) (hx : ExpF x) : ofS (g ++ (a ++ (f ++ x))) =
    if trimL (a ++ f.drop 1) [48] = [] then some ⟨false, [], 0⟩
    else if 15 < (powDigs (x.drop 1)).length then none
    else some ⟨decide (g = [45]), trimR (trimL (a ++ f.drop 1) [48]) [48], ((trimL (a ++ f.drop 1) [48]).length : Int) - (trimR (trimL (a ++ f.drop 1) [48]) [48]).length - (f.drop 1).length + powVal (x.drop 1)⟩ := by
  have hc := checkN_to (l := g ++ (a ++ (f ++ x))) (i := 0) (t := []) (by simp) hg ha hf hx noD_nil (fun _ => rfl)
  unfold ofS
  rw [if_pos (by rw [hc]; congr 1; simp [List.length_append]; omega)]
  unfold Num.valOf
  have hp := plain_form (r := a ++ (f ++ x)) hg (digs_head ha.1 ha.2.1 _)
  have hm := mant_form (x := x) ha.2.1 hf hx
  have hah := ahead_form ha.2.1 hf
  rw [hp.1, hp.2, hm.1, hm.2, hah.2]
  unfold digsOf
  rw [hah.1, hah.2]
end Go.Proofs.YtfploakafbnigaaGreatDoor.Num
namespace Go.Proofs.YtfploakafbnigaaGreatDoor
open Go.RowKit Num
set_option linter.unusedVariables false
set_option linter.unusedSimpArgs false
theorem RB.head {w : World} {B : Nat} {A : Option Addr} {x : UInt8} {r : List UInt8} (h : RB w B A (x :: r)) : ∃ b off, A = some ⟨b, off, none⟩ ∧ w.cell? ⟨b, off, none⟩ = some (.int .u8 x.toNat) := by
  rcases h with h | ⟨b, off, e, _, hc⟩
  · cases h
  · exact ⟨b, off, e, hc 0 (by simp)⟩
theorem RB.get {w : World} {B : Nat} {A : Option Addr} {l : List UInt8} (h : RB w B A l) (p : Nat) (hp : p < l.length) : ∃ b off, A = some ⟨b, off, none⟩ ∧ w.cell? ⟨b, off + p, none⟩ = some (.int .u8 l[p].toNat) := by
  rcases h with h | ⟨b, off, e, _, hc⟩
  · subst h; simp at hp
  · exact ⟨b, off, e, hc p hp⟩
theorem RB.tail {w : World} {B b off : Nat} {x : UInt8} {r : List UInt8} (h : RB w B (some ⟨b, off, none⟩) (x :: r)) : RB w B (some ⟨b, off + 1, none⟩) r := by
  rcases h with h | ⟨b', off', e, hb, hc⟩
  · cases h
  · have e' := Option.some.inj e
    simp only [Addr.mk.injEq] at e'
    obtain ⟨rfl, rfl, -⟩ := e'
    refine .inr ⟨b, off + 1, rfl, hb, fun j hj => ?_⟩
    have := hc (j + 1) (by simp; omega)
    rw [show off + 1 + j = off + (j + 1) by omega]
    exact this
-- HEAD ENDS
end Go.Proofs.YtfploakafbnigaaGreatDoor
namespace Go.Proofs.YtfploakafbnigaaGreatDoor
open Go.RowKit Num
set_option linter.unusedVariables false
set_option linter.unusedSimpArgs false
theorem Bring_any (i n : Int) (w : World) (hi : -9223372036854775808 ≤ i ∧ i ≤ 9223372036854775807) (hn : 0 < n ∧ n ≤ 1000000) :
    Calls Tryz.prog 40 #[.int .i64 i, .int .i64 n] w fun e w' => e = .returned (.int .i64 (i % n)) ∧ w = w' := by
  have h0 : decide (n ≤ 0) = false := by simp; omega
  have h1 : i.tmod n < 0 → wrap64 (i.tmod n + n) = i % n := fun h => by
    have e := Int.tmod_eq_emod (a := i) (b := n)
    have h3 := Int.emod_lt_of_pos i hn.1
    have h4 := Int.emod_nonneg i (show n ≠ 0 by omega)
    split at e
    · omega
    · unfold wrap64; omega
  have h2 : 0 ≤ i.tmod n → i.tmod n = i % n := fun h => by
    have e := Int.tmod_eq_emod (a := i) (b := n)
    have h3 := Int.emod_lt_of_pos i hn.1
    split at e
    · omega
    · omega
  have H1 := Lib.hid h1
  have H2 := Lib.hid h2
  clear h1 h2
  go_enter Tryz.func40, Tryz.ntmps40
  go_wp2
  · go_ret
    exact ⟨by rw [H1.out (by assumption)]; rfl, rfl⟩
  · go_ret
    exact ⟨by rw [H2.out (by assumption)]; rfl, rfl⟩
def asc (n : Nat) : UInt8 := UInt8.ofNat (48 + n)
def textS (n : Nat) : List UInt8 := if n < 10 then [asc n] else textS (n / 10) ++ [asc (n % 10)]
termination_by n
decreasing_by omega
theorem textS_small {n : Nat} (h : n < 10) : textS n = [asc n] := by rw [textS, if_pos h]
theorem textS_great {n : Nat} (h : ¬ n < 10) : textS n = textS (n / 10) ++ [asc (n % 10)] := by rw [textS, if_neg h]
theorem textS_len (n d : Nat) (h : n < 10 ^ (d + 1)) : (textS n).length ≤ d + 1 := by
  induction d generalizing n with
  | zero => rw [textS_small (by omega)]; simp
  | succ d ih =>
    by_cases h' : n < 10
    · rw [textS_small h']; simp
    · rw [textS_great h', List.length_append]
      have := ih (n / 10) (by rw [Nat.pow_succ] at h; omega)
      simp; omega
end Go.Proofs.YtfploakafbnigaaGreatDoor
namespace Go.Proofs.YtfploakafbnigaaGreatDoor.Num
set_option linter.unusedVariables false
set_option linter.unusedSimpArgs false
theorem trimR_snoc (l : List UInt8) (c : UInt8) : trimR (l ++ [c]) [48] = if c = 48 then trimR l [48] else l ++ [c] := by
  unfold trimR
  rw [List.reverse_append, List.reverse_singleton, List.singleton_append, List.dropWhile_cons]
  by_cases h : c = 48
  · subst h; simp
  · have : ([48].contains c) = false := by simpa using h
    rw [this]; simp [h]
theorem trimR_split (l : List UInt8) : ∃ k, l = trimR l [48] ++ List.replicate k 48 := by
  induction hn : l.length generalizing l with
  | zero => have := List.eq_nil_of_length_eq_zero hn; subst this; exact ⟨0, rfl⟩
  | succ n ih =>
    have hne : l ≠ [] := by intro e; subst e; cases hn
    obtain ⟨r, c, rfl⟩ : ∃ r c, l = r ++ [c] := ⟨l.dropLast, l.getLast hne, (List.dropLast_concat_getLast hne).symm⟩
    rw [trimR_snoc]
    split
    · rename_i h
      subst h
      obtain ⟨k, hk⟩ := ih r (by simpa using hn)
      exact ⟨k + 1, by rw [List.replicate_succ', ← List.append_assoc, ← hk]⟩
    · exact ⟨0, by simp⟩
theorem trimR_eq (l : List UInt8) : l = trimR l [48] ++ List.replicate (l.length - (trimR l [48]).length) 48 := by
  obtain ⟨k, hk⟩ := trimR_split l
  have : l.length - (trimR l [48]).length = k := by
    have := congrArg List.length hk
    rw [List.length_append, List.length_replicate] at this
    omega
  rw [this]; exact hk
theorem trimR_len (l : List UInt8) : (trimR l [48]).length ≤ l.length := by
  have := congrArg List.length (trimR_eq l)
  rw [List.length_append, List.length_replicate] at this
  omega
/-- a value: its sign, its digits without noughts ahead, ten to which power times these -/
def valT (g : Bool) (D : List UInt8) (e : Int) : V := if D = [] then ⟨false, [], 0⟩ else ⟨g, trimR D [48], ((D.length : Int) - (trimR D [48]).length) + e⟩
theorem valT_nil (g : Bool) (e : Int) : valT g [] e = ⟨false, [], 0⟩ := rfl
theorem valT_ne {D : List UInt8} (h : D ≠ []) (g : Bool) (e : Int) : valT g D e = ⟨g, trimR D [48], ((D.length : Int) - (trimR D [48]).length) + e⟩ := by unfold valT; rw [if_neg h]
theorem of_val {g a f x : List UInt8} (hg : NegF g) (ha : HeadF a) (hf : FracF f) (hx : ExpF x) (hp : (powDigs (x.drop 1)).length ≤ 15) :
    ofS (g ++ (a ++ (f ++ x))) = some (valT (decide (g = [45])) (trimL (a ++ f.drop 1) [48]) (powVal (x.drop 1) - (f.drop 1).length)) := by
  rw [of_form hg ha hf hx]
  unfold valT
  split
  · rfl
  · rw [if_neg (by omega)]
    congr 2
    omega
/-! ### powers -/
theorem decV_append (a b : List UInt8) : decV (a ++ b) = b.foldl (fun n c => n * 10 + (c.toNat - 48)) (decV a) := by unfold decV; rw [List.foldl_append]
/-! ### the decimal text of a number -/
theorem asc_isD {n : Nat} (h : n < 10) : isD (asc n) = true ∧ (asc n).toNat = 48 + n := by
  have e : (asc n).toNat = 48 + n := by unfold asc; rw [UInt8.toNat_ofNat']; omega
  refine ⟨?_, e⟩
  unfold isD
  simp only [Bool.and_eq_true, decide_eq_true_eq, UInt8.le_iff_toNat_le]
  have h57 : (57 : UInt8).toNat = 57 := rfl
  have h48 : (48 : UInt8).toNat = 48 := rfl
  omega
theorem textS_digs (n : Nat) : Digs (textS n) := by
  induction n using Nat.strongRecOn with
  | ind n ih =>
  by_cases h : n < 10
  · rw [textS_small h]
    intro y hy
    have : y = asc n := by simpa using hy
    rw [this]; exact (asc_isD h).1
  · rw [textS_great h]
    refine digs_append (ih _ (by omega)) ?_
    intro y hy
    have : y = asc (n % 10) := by simpa using hy
    rw [this]; exact (asc_isD (by omega)).1
theorem textS_ne (n : Nat) : textS n ≠ [] := by
  by_cases h : n < 10
  · rw [textS_small h]; simp
  · rw [textS_great h]; simp
theorem textS_head {n : Nat} (h0 : 0 < n) : (textS n).head? ≠ some 48 := by
  induction n using Nat.strongRecOn with
  | ind n ih =>
  by_cases h : n < 10
  · rw [textS_small h]
    intro e
    have e' : asc n = 48 := by simpa using e
    have := (asc_isD h).2
    rw [e'] at this
    have h48 : (48 : UInt8).toNat = 48 := rfl
    omega
  · rw [textS_great h]
    have := ih (n / 10) (by omega) (by omega)
    have hne := textS_ne (n / 10)
    cases k : textS (n / 10) with
    | nil => exact absurd k hne
    | cons c r => rw [k] at this; simpa using this
theorem textS_zero : textS 0 = [48] := by rw [textS_small (by omega)]; rfl
theorem textS_headF (n : Nat) : HeadF (textS n) := by
  refine ⟨textS_ne n, textS_digs n, ?_⟩
  by_cases h : n = 0
  · subst h; exact .inl textS_zero
  · exact .inr (textS_head (by omega))
theorem textS_dec (n : Nat) : decV (textS n) = n := by
  induction n using Nat.strongRecOn with
  | ind n ih =>
  by_cases h : n < 10
  · rw [textS_small h]
    show 0 * 10 + ((asc n).toNat - 48) = n
    rw [(asc_isD h).2]; omega
  · rw [textS_great h, decV_append, ih _ (by omega)]
    show n / 10 * 10 + ((asc (n % 10)).toNat - 48) = n
    rw [(asc_isD (by omega)).2]; omega
theorem trimL_head {r : List UInt8} (h : r.head? ≠ some 48) : trimL r [48] = r := by
  cases r with
  | nil => rfl
  | cons c r =>
    have hc : c ≠ 48 := by simpa using h
    unfold trimL; rw [List.dropWhile_cons, show ([48].contains c) = false by simpa using hc]; rfl
theorem trimL_text {n : Nat} (h : 0 < n) (r : List UInt8) : trimL (textS n ++ r) [48] = textS n ++ r := by
  refine trimL_head ?_
  have h1 := textS_head h
  cases k : textS n with
  | nil => exact absurd k (textS_ne n)
  | cons c s => rw [k] at h1; simpa using h1
/-- a whole number's value -/
def wval (n : Nat) (g : Bool) : V := valT g (trimL (textS n) [48]) 0
/-- Int at a whole number's value -/
theorem int_whole {n : Nat} (h : n < 9007199254740992) (g : Bool) : intV (wval n g) = (if g then -(n : Int) else n, true) := by
  unfold wval
  by_cases h0 : n = 0
  · subst h0
    rw [textS_zero, show trimL [48] [48] = [] from rfl, valT_nil]
    cases g <;> rfl
  · have h1 := trimL_text (n := n) (by omega) []
    rw [List.append_nil] at h1
    rw [h1, valT_ne (textS_ne n)]
    have hl := textS_len n 15 (by omega)
    have ht := trimR_len (textS n)
    unfold intV
    rw [if_neg (by show ¬ ((((textS n).length : Int) - (trimR (textS n) [48]).length) + 0 < 0 ∨ 16 < (((textS n).length : Int) - (trimR (textS n) [48]).length) + 0 ∨ 16 < ((trimR (textS n) [48]).length : Int) + ((((textS n).length : Int) - (trimR (textS n) [48]).length) + 0)); omega)]
    have hN : intN ⟨g, trimR (textS n) [48], (((textS n).length : Int) - (trimR (textS n) [48]).length) + 0⟩ = n := by
      unfold intN
      show decV (trimR (textS n) [48] ++ List.replicate ((((textS n).length : Int) - (trimR (textS n) [48]).length) + 0).toNat 48) = n
      rw [show ((((textS n).length : Int) - (trimR (textS n) [48]).length) + 0).toNat = (textS n).length - (trimR (textS n) [48]).length by omega, ← trimR_eq, textS_dec]
    rw [hN, if_neg (by omega)]
    cases g <;> rfl
theorem int_big {n : Nat} (h : 9007199254740992 ≤ n) (g : Bool) : intV (wval n g) = (0, false) := by
  unfold wval
  have h1 := trimL_text (n := n) (by omega) []
  rw [List.append_nil] at h1
  rw [h1, valT_ne (textS_ne n)]
  have ht := trimR_len (textS n)
  have hN : intN ⟨g, trimR (textS n) [48], (((textS n).length : Int) - (trimR (textS n) [48]).length) + 0⟩ = n := by
    unfold intN
    show decV (trimR (textS n) [48] ++ List.replicate ((((textS n).length : Int) - (trimR (textS n) [48]).length) + 0).toNat 48) = n
    rw [show ((((textS n).length : Int) - (trimR (textS n) [48]).length) + 0).toNat = (textS n).length - (trimR (textS n) [48]).length by omega, ← trimR_eq, textS_dec]
  unfold intV
  split
  · rfl
  · rw [hN, if_pos (by omega)]
end Go.Proofs.YtfploakafbnigaaGreatDoor.Num
