/-
  Joined texts: NumSame NumInt NumBytes NumTo NumPower NumDigits NumVal.
-/
import Derived.Test.YtfploakafbnigaaGreatDoorCPkNumB
import Derived.WalkKit
import Derived.WalkSpells
import Derived.WalkLawsBesides
import Derived.BigQuiet
import Derived.Deep.QuietTactic
import Derived.Lib.Hide
import Derived.Laws.StructEq
import Derived.Deep.RegionHeld3
import Derived.Deep.RegionWith
import Derived.Deep.DeepCutAuto
import Derived.Lib.OthersKept
import Derived.Lib.Strings
import Derived.Laws.AppendOwn
import Derived.OwnWalk
import Derived.ChangeKeysEq
import Derived.Deep.DeepFit
import Derived.Lib.BufferRead
namespace Go.Proofs.YtfploakafbnigaaGreatDoor
open Go.RowKit Num
set_option linter.unusedVariables false
set_option linter.unusedSimpArgs false
theorem eq_value (a1 a2 : Bool) (d1 d2 : List UInt8) (p1 p2 : Int) (w : World) :
    (binOp .eql 190 (.agg #[.bool a1, .string (bs d1), .int .i64 p1]) (.agg #[.bool a2, .string (bs d2), .int .i64 p2])).run Tryz.prog w = .ok (.bool (decide ((⟨a1, d1, p1⟩ : V) = ⟨a2, d2, p2⟩))) w := by
  have hS : Tryz.prog.underlying 190 = some (.struct (Tryz.prog.fieldsOf 190)) := by kernel_rfl
  have hp : Tryz.prog.stoodInHeld 190 = false := by kernel_rfl
  have u3 := Tryz.underlying3
  have u4 := Tryz.underlying4
  have u9 := Tryz.underlying9
  rw [run_eql_struct, show (10000 : Nat) = 9999 + 1 from rfl, run_equalIn_agg w 9999 190 _ _ hS hp]
  simp only [Program.fieldsOf, Tryz.underlying190]
  go_simp
  have e : ((bs d1).toList == (bs d2).toList) = decide (d1 = d2) := by
    rw [Lib.toList_data, Lib.toList_data, bs_list, bs_list]
    by_cases h : d1 = d2 <;> simp [h]
  by_cases h1 : a1 = a2 <;> by_cases h2 : d1 = d2 <;> by_cases h3 : p1 = p2 <;> simp [h1, h2, h3, e]
  all_goals (rw [Lib.toList_data, Lib.toList_data, bs_list, bs_list]; exact h2)
set_option maxHeartbeats 400000 in
theorem Same_nn (a b : ByteArray) (w : World) (HM : Hid (ML w))
    (H1 : Hid (∀ W, ML W → Calls Tryz.prog 153 #[.string a] W fun e w' => e = .returned (.tuple #[vOf none, .bool false]) ∧ Below W.heap.size W w'))
    (H2 : Hid (∀ W, ML W → Calls Tryz.prog 153 #[.string b] W fun e w' => e = .returned (.tuple #[vOf none, .bool false]) ∧ Below W.heap.size W w')) :
    Calls Tryz.prog 103 #[.string a, .string b] w fun e w' => e = .returned (.bool false) ∧ Below w.heap.size w w' := by
  simp only [vOf] at H1 H2
  go_enter Tryz.func103, Tryz.ntmps103
  go_wp2_with fail
  refine (H1.out _ HM.out).mono ?_
  rintro e w1 ⟨rfl, hb⟩
  have HB := Lib.hid hb
  have HM1 := Lib.hid (HM.out.on hb)
  clear hb
  go_wp2_with fail
  refine (H2.out _ (ML.on HM1.out ((Below.refl _ _).alloc (Nat.le_refl _) _))).mono ?_
  rintro e w2 ⟨rfl, hb⟩
  have hz : w1.heap.size < w2.heap.size := by have := hb.size; simp at this; omega
  have HB2 := Lib.hid ((HB.out.alloc HB.out.size _).trans (hb.mono (by simp; have := HB.out.size; omega)))
  clear hb
  go_wp2
  go_ret
  exact ⟨rfl, HB2.out.alloc HB2.out.size _⟩
set_option maxHeartbeats 400000 in
theorem Same_ns (a b : ByteArray) (y : V) (w : World) (HM : Hid (ML w))
    (H1 : Hid (∀ W, ML W → Calls Tryz.prog 153 #[.string a] W fun e w' => e = .returned (.tuple #[vOf none, .bool false]) ∧ Below W.heap.size W w'))
    (H2 : Hid (∀ W, ML W → Calls Tryz.prog 153 #[.string b] W fun e w' => e = .returned (.tuple #[vOf (some y), .bool true]) ∧ Below W.heap.size W w')) :
    Calls Tryz.prog 103 #[.string a, .string b] w fun e w' => e = .returned (.bool false) ∧ Below w.heap.size w w' := by
  simp only [vOf] at H1 H2
  obtain ⟨yb, yd, yp⟩ := y
  go_enter Tryz.func103, Tryz.ntmps103
  go_wp2_with fail
  refine (H1.out _ HM.out).mono ?_
  rintro e w1 ⟨rfl, hb⟩
  have HB := Lib.hid hb
  have HM1 := Lib.hid (HM.out.on hb)
  clear hb
  go_wp2_with fail
  refine (H2.out _ (ML.on HM1.out ((Below.refl _ _).alloc (Nat.le_refl _) _))).mono ?_
  rintro e w2 ⟨rfl, hb⟩
  have hz : w1.heap.size < w2.heap.size := by have := hb.size; simp at this; omega
  have HB2 := Lib.hid ((HB.out.alloc HB.out.size _).trans (hb.mono (by simp; have := HB.out.size; omega)))
  clear hb
  go_wp2
  go_ret
  exact ⟨rfl, HB2.out.alloc HB2.out.size _⟩
set_option maxHeartbeats 400000 in
theorem Same_sn (a b : ByteArray) (x : V) (w : World) (HM : Hid (ML w))
    (H1 : Hid (∀ W, ML W → Calls Tryz.prog 153 #[.string a] W fun e w' => e = .returned (.tuple #[vOf (some x), .bool true]) ∧ Below W.heap.size W w'))
    (H2 : Hid (∀ W, ML W → Calls Tryz.prog 153 #[.string b] W fun e w' => e = .returned (.tuple #[vOf none, .bool false]) ∧ Below W.heap.size W w')) :
    Calls Tryz.prog 103 #[.string a, .string b] w fun e w' => e = .returned (.bool false) ∧ Below w.heap.size w w' := by
  simp only [vOf] at H1 H2
  obtain ⟨xb, xd, xp⟩ := x
  go_enter Tryz.func103, Tryz.ntmps103
  go_wp2_with fail
  refine (H1.out _ HM.out).mono ?_
  rintro e w1 ⟨rfl, hb⟩
  have HB := Lib.hid hb
  have HM1 := Lib.hid (HM.out.on hb)
  clear hb
  go_wp2_with fail
  refine (H2.out _ (ML.on HM1.out ((Below.refl _ _).alloc (Nat.le_refl _) _))).mono ?_
  rintro e w2 ⟨rfl, hb⟩
  have hz : w1.heap.size < w2.heap.size := by have := hb.size; simp at this; omega
  have HB2 := Lib.hid ((HB.out.alloc HB.out.size _).trans (hb.mono (by simp; have := HB.out.size; omega)))
  clear hb
  go_wp2
  go_ret
  exact ⟨rfl, HB2.out.alloc HB2.out.size _⟩
set_option maxHeartbeats 400000 in
theorem Same_ss (a b : ByteArray) (x : V) (y : V) (w : World) (HM : Hid (ML w))
    (H1 : Hid (∀ W, ML W → Calls Tryz.prog 153 #[.string a] W fun e w' => e = .returned (.tuple #[vOf (some x), .bool true]) ∧ Below W.heap.size W w'))
    (H2 : Hid (∀ W, ML W → Calls Tryz.prog 153 #[.string b] W fun e w' => e = .returned (.tuple #[vOf (some y), .bool true]) ∧ Below W.heap.size W w')) :
    Calls Tryz.prog 103 #[.string a, .string b] w fun e w' => e = .returned (.bool (decide (x = y))) ∧ Below w.heap.size w w' := by
  simp only [vOf] at H1 H2
  obtain ⟨xb, xd, xp⟩ := x
  obtain ⟨yb, yd, yp⟩ := y
  have heq := eq_value xb yb xd yd xp yp
  generalize decide ((⟨xb, xd, xp⟩ : V) = ⟨yb, yd, yp⟩) = r at *
  have HE := Lib.hid heq
  clear heq
  go_enter Tryz.func103, Tryz.ntmps103
  go_wp2_with fail
  refine (H1.out _ HM.out).mono ?_
  rintro e w1 ⟨rfl, hb⟩
  have HB := Lib.hid hb
  have HM1 := Lib.hid (HM.out.on hb)
  clear hb
  go_wp2_with fail
  refine (H2.out _ (ML.on HM1.out ((Below.refl _ _).alloc (Nat.le_refl _) _))).mono ?_
  rintro e w2 ⟨rfl, hb⟩
  have k0 : w2.cell? ⟨w1.heap.size, 0, none⟩ = some (.bool xb) := (hb.cell (p := ⟨w1.heap.size, 0, none⟩) (by simp)).trans (by rw [cell_of_row _ _ 0 _ _ _ (heap_alloc_new w1 _)]; rfl)
  have k1 : w2.cell? ⟨w1.heap.size, 1, none⟩ = some (.string (bs xd)) := (hb.cell (p := ⟨w1.heap.size, 1, none⟩) (by simp)).trans (by rw [cell_of_row _ _ 1 _ _ _ (heap_alloc_new w1 _)]; rfl)
  have k2 : w2.cell? ⟨w1.heap.size, 2, none⟩ = some (.int .i64 xp) := (hb.cell (p := ⟨w1.heap.size, 2, none⟩) (by simp)).trans (by rw [cell_of_row _ _ 2 _ _ _ (heap_alloc_new w1 _)]; rfl)
  have heq := HE.out
  have hz : w1.heap.size < w2.heap.size := by have := hb.size; simp at this; omega
  have HB2 := Lib.hid ((HB.out.alloc HB.out.size _).trans (hb.mono (by simp; have := HB.out.size; omega)))
  clear hb
  go_wp2
  go_ret
  exact ⟨rfl, HB2.out.alloc HB2.out.size _⟩
/-- number.Same. -/
theorem Same_any (a b : ByteArray) (la lb : List UInt8) (ha : a.data.toList = la) (hb : b.data.toList = lb) (w : World) (hM : ML w) (hla : la.length < 4294967281) (hlb : lb.length < 4294967281) :
    Calls Tryz.prog 103 #[.string a, .string b] w fun e w' => e = .returned (.bool (same la lb)) ∧ Below w.heap.size w w' := by
  have H1 := Lib.hid (fun W (hW : ML W) => of_any a la ha W hW hla)
  have H2 := Lib.hid (fun W (hW : ML W) => of_any b lb hb W hW hlb)
  unfold same
  generalize ofS la = x at *
  generalize ofS lb = y at *
  cases x <;> cases y
  · exact Same_nn a b w (Lib.hid hM) H1 H2
  · exact Same_ns a b _ w (Lib.hid hM) H1 H2
  · exact Same_sn a b _ w (Lib.hid hM) H1 H2
  · exact Same_ss a b _ _ w (Lib.hid hM) H1 H2
end Go.Proofs.YtfploakafbnigaaGreatDoor
namespace Go.Proofs.YtfploakafbnigaaGreatDoor
open Go.RowKit Num
set_option linter.unusedVariables false
set_option linter.unusedSimpArgs false
theorem Repeat_nought (p : Nat) (w : World) (hp : p ≤ 100) :
    Calls Tryz.prog 182 #[.string ⟨#[48]⟩, .int .i64 p] w fun e w' => e = .returned (.string (bs (List.replicate p 48))) ∧ Below w.heap.size w w' := by
  refine (Tryz.strings_Repeat ⟨#[48]⟩ p w (by omega) (by rw [show (ByteArray.mk #[48]).size = 1 from rfl]; omega)).mono ?_
  rintro e w' ⟨rfl, hb⟩
  refine ⟨?_, hb⟩
  have := Lib.repeatL_replicate 48 1 p
  rw [Nat.mul_one] at this
  rw [show (ByteArray.mk #[48]).data.toList = List.replicate 1 48 from rfl, this]; rfl
/-- the same, where a number's value lies in block g. -/
theorem Repeat_keeps (p : Nat) (hp : p ≤ 100) (g : Nat) (a b c : Value) (W : World) (h : VB W g a b c) :
    Calls Tryz.prog 182 #[.string ⟨#[48]⟩, .int .i64 p] W fun e w' => e = .returned (.string (bs (List.replicate p 48))) ∧ Hid (Below W.heap.size W w') ∧ Hid (VB w' g a b c) ∧ w'.cell? ⟨g, 1, none⟩ = some b ∧ w'.cell? ⟨g, 2, none⟩ = some c := by
  refine (Repeat_nought p W hp).mono ?_
  rintro e w' ⟨rfl, hb⟩
  have hv := h.on hb
  exact ⟨rfl, Lib.hid hb, Lib.hid hv, hv.c1, hv.c2⟩
theorem digs_of {l : List UInt8} {v : V} (h : ofS l = some v) : Digs v.digits := by
  unfold ofS at h
  split at h
  · rename_i hk
    unfold Num.valOf at h
    split at h
    · obtain rfl := Option.some.inj h
      intro x hx; cases hx
    · split at h
      · cases h
      · obtain rfl := Option.some.inj h
        have := (whole_digs hk).2
        intro x hx
        have hx' : x ∈ trimR (digsOf (mantOf (plainOf l))) [48] := hx
        unfold trimR at hx'
        rw [List.mem_reverse] at hx'
        have h2 := (List.dropWhile_sublist ([48].contains ·)).subset hx'
        rw [List.mem_reverse] at h2
        exact this x h2
  · cases h
theorem decV_snoc (l : List UInt8) (c : UInt8) : decV (l ++ [c]) = decV l * 10 + (c.toNat - 48) := by
  unfold decV; rw [List.foldl_append]; rfl
theorem take_snoc' (l : List UInt8) (k : Nat) (h : k < l.length) : l.take (k + 1) = l.take k ++ [l[k]] := by
  rw [List.take_add_one, List.getElem?_eq_getElem h]; rfl
set_option maxRecDepth 100000 in
set_option maxHeartbeats 1000000 in
theorem Int_walk (s : ByteArray) (bl : Bool) (dg : List UInt8) (p : Nat) (R : Int × Bool) (hR : Hid (intV ⟨bl, dg, p⟩ = R)) (w : World) (HM : Hid (ML w)) (hd : Digs dg) (hp : p ≤ 16) (hpl : dg.length + p ≤ 16)
    (H1 : Hid (∀ W, ML W → Calls Tryz.prog 153 #[.string s] W fun e w' => e = .returned (.tuple #[.agg #[.bool bl, .string (bs dg), .int .i64 p], .bool true]) ∧ Below W.heap.size W w')) :
    Calls Tryz.prog 136 #[.string s] w fun e w' => e = .returned (.tuple #[.int .i64 R.1, .bool R.2]) ∧ Below w.heap.size w w' := by
  have hss := bs_size dg
  have hsz : (bs dg).size ≤ 16 := by omega
  have hsum : (((bs dg).size : Int) + (p : Int)) ≤ 16 := by omega
  have C2 := Lib.hid (fun g a b c W h => Repeat_keeps p (by omega) g a b c W h)
  have hcat : (bs dg).size + (bs (List.replicate p 48)).size ≤ 9223372036854775807 := by rw [bs_size, bs_size, List.length_replicate]; omega
  have hadd : ∀ W, (binOp .add 9 (.string (bs dg)) (.string (bs (List.replicate p 48)))).run Tryz.prog W = .ok (.string (bs dg ++ bs (List.replicate p 48))) W := fun W => by rw [binOp_string_add, run_string_add_sum W _ _ hcat]
  have q1 : decide ((p : Int) < 0) = false := by simp
  have q2 : decide ((16 : Int) < (p : Int)) = false := by simp; omega
  have q2' : decide (16 < p) = false := by simp; omega
  have q3 : decide ((16 : Int) < ((bs dg).size : Int) + (p : Int)) = false := by simp; omega
  have HD := Lib.hid hd
  have HS := Lib.hid hss
  clear hd hss hpl
  go_enter Tryz.func136, Tryz.ntmps136
  go_wp2_with fail
  refine (H1.out _ HM.out).mono ?_
  rintro e w1 ⟨rfl, hb⟩
  have HB := Lib.hid hb
  clear hb
  go_upto_region 4 with fail
  have k0 : (w1.alloc (.cells #[.bool bl, .string (bs dg), .int .i64 p] 190)).cell? ⟨w1.heap.size, 0, none⟩ = some (.bool bl) := by rw [cell_of_row _ _ 0 _ _ _ (heap_alloc_new w1 _)]; rfl
  have k1 : (w1.alloc (.cells #[.bool bl, .string (bs dg), .int .i64 p] 190)).cell? ⟨w1.heap.size, 1, none⟩ = some (.string (bs dg)) := by rw [cell_of_row _ _ 1 _ _ _ (heap_alloc_new w1 _)]; rfl
  have k2 : (w1.alloc (.cells #[.bool bl, .string (bs dg), .int .i64 p] 190)).cell? ⟨w1.heap.size, 2, none⟩ = some (.int .i64 p) := by rw [cell_of_row _ _ 2 _ _ _ (heap_alloc_new w1 _)]; rfl
  go_cut [39] (fun s39 wx => ∃ B : Nat, s39 = .pointer (some ⟨B, 0, none⟩) ∧ wx.heap[B]? = some (.stringIter (bs dg ++ bs (List.replicate p 48)) 0) ∧ w1.heap.size < B ∧ wx.cell? ⟨w1.heap.size, 0, none⟩ = some (.bool bl) ∧ Below w.heap.size w wx)
  case first =>
    go_region_with (go_at_call 182; refine (C2.out w1.heap.size (.bool bl) _ _ _ (by exact heap_alloc_new w1 _)).mono ?_; rintro e w' ⟨rfl, hb, hv, r1, r2⟩)
    all_goals
      go_wp2_with fail
      go_meet
      have hbw : Below w.heap.size w w' := ((HB.out.alloc HB.out.size (.cells #[.bool bl, .string (bs dg), .int .i64 p] 190)).drew).trans (hb.out.mono (by simp; have := HB.out.size; omega))
      exact ⟨w'.heap.size, rfl, World.iter_heap _ _ _, by have := hb.out.size; simp at this; omega, ((VB.on hv.out (by exact (Below.refl _ _).alloc (Nat.le_refl _) _) : VB (w'.iter _ _) _ _ _ _)).c0, hbw.alloc hbw.size _⟩
  case rest =>
    obtain ⟨B, rfl, hit, hB, k0', hbw⟩ := hcut
    clear k0 k1 k2
    have hD : bs dg ++ bs (List.replicate p 48) = bs (dg ++ List.replicate p 48) := ByteArray.mk_append_mk _ _
    rw [hD] at hit
    have hdD : Digs (dg ++ List.replicate p 48) := digs_append HD.out (fun x hx => by rw [(List.mem_replicate.1 hx).2]; rfl)
    have hlD : (dg ++ List.replicate p 48).length ≤ 16 := by rw [List.length_append, List.length_replicate, ← HS.out]; omega
    have HIV : Hid (intV ⟨bl, dg, p⟩ = if 9007199254740991 < decV (dg ++ List.replicate p 48) then (0, false) else if bl then (-(decV (dg ++ List.replicate p 48) : Int), true) else (decV (dg ++ List.replicate p 48), true)) := by
      refine Lib.hid ?_
      unfold intV intN
      rw [if_neg (by show ¬ ((p : Int) < 0 ∨ 16 < (p : Int) ∨ 16 < (dg.length : Int) + (p : Int)); rw [← HS.out]; omega)]
      rfl
    generalize dg ++ List.replicate p 48 = D at *
    have hDs := bs_size D
    have HDS := Lib.hid hDs
    have HDD := Lib.hid hdD
    clear hDs hdD hD hcat q1 q2 q2' q3 hsum C2 HS HD
    go_wp2
    go_loopw [2] (fun n wr => ∃ pos : Nat, pos ≤ D.length ∧ n = .int .i64 (decV (D.take pos)) ∧ wr.heap[B]? = some (.stringIter (bs D) pos) ∧ wr.cell? ⟨w1.heap.size, 0, none⟩ = some (.bool bl) ∧ Below w.heap.size w wr) (fun _ wr => D.length - wr.iterPos B)
    case atStart => exact ⟨0, Nat.zero_le _, rfl, hit, k0', hbw⟩
    case round =>
      obtain ⟨pos, hps, rfl, hk, hc0, hbr⟩ := hrel
      clear hit k0' hbw
      have hmu : wr.iterPos B = pos := by simp [World.iterPos, hk]
      by_cases hp : pos < D.length
      · have hdg := isD_range (HDD.out _ (List.getElem_mem hp))
        have hnext : ∀ ty, (Instr.next (.pointer (some ⟨B, 0, none⟩)) true ty).run Tryz.prog wr = .ok (.tuple #[.bool true, .int .i64 pos, .int .i32 (D[pos].toNat)]) (wr.iterAt B (bs D) (pos + 1)) := fun ty => Lib.run_next_ascii_at wr B (bs D) pos ty hk (by rw [HDS.out]; exact hp) (by show D[pos].toNat < 128; omega)
        have hk1 := Lib.iterAt_heap wr B (bs D) pos (pos + 1) hk
        have hn1 : Below w.heap.size w (wr.iterAt B (bs D) (pos + 1)) := Lib.below_iterAt hbr (by have := HB.out.size; omega) (bs D) (pos + 1)
        have hc1 : (wr.iterAt B (bs D) (pos + 1)).cell? ⟨w1.heap.size, 0, none⟩ = some (.bool bl) := by
          rw [← hc0]
          have : B ≠ w1.heap.size := by omega
          simp [World.cell?, World.iterAt, Array.getElem?_modify, this]
        have hmu1 : (wr.iterAt B (bs D) (pos + 1)).iterPos B = pos + 1 := by simp [World.iterPos, hk1]
        have HV : Hid (decV (D.take (pos + 1)) = decV (D.take pos) * 10 + (D[pos].toNat - 48)) := Lib.hid (by rw [take_snoc' D pos hp, decV_snoc])
        have hlt := decV_lt (D.take pos) (fun x hx => HDD.out x (List.mem_of_mem_take hx)) 16 (by rw [List.length_take]; omega)
        have HMU := Lib.hid hmu
        have HMU1 := Lib.hid hmu1
        clear hmu hmu1 hk hc0 hbr
        generalize wr.iterAt B (bs D) (pos + 1) = W1 at *
        generalize D[pos].toNat = c at *
        generalize decV (D.take pos) = n at *
        have h1 : (48 : Int) ≤ c := by omega
        have h2 : (c : Int) ≤ 57 := by omega
        have h3 : (n : Int) ≤ 10000000000000000 := by omega
        have h4 : (0 : Int) ≤ n := by omega
        clear hlt hdg
        go_wp2
        go_roundw
        case rel => exact ⟨pos + 1, hp, by rw [HV.out]; congr 1; omega, hk1, hc1, hn1⟩
        case measure => rw [HMU.out, HMU1.out]; omega
      · obtain rfl : pos = D.length := by omega
        have hnext : ∀ ty, (Instr.next (.pointer (some ⟨B, 0, none⟩)) true ty).run Tryz.prog wr = .ok (.tuple #[.bool false]) wr := fun ty => Lib.run_next_end_at wr B (bs D) D.length ty hk (by rw [HDS.out]; omega)
        have hlt := decV_lt D HDD.out 16 hlD
        rw [List.take_length]
        have HBR := Lib.hid hbr
        clear hbr hmu
        generalize decV D = n at *
        have h3 : (n : Int) ≤ 10000000000000000 := by omega
        have h4 : (0 : Int) ≤ n := by omega
        clear hlt
        by_cases hbig : 9007199254740991 < n
        · have hb1 : decide ((9007199254740991 : Int) < (n : Int)) = true := by simp; omega
          have hb2 : decide (9007199254740991 < n) = true := by simp; omega
          obtain rfl : R = (0, false) := by rw [← hR.out, HIV.out, if_pos hbig]
          clear hbig
          go_wp2
          go_ret2
          exact ⟨rfl, HBR.out⟩
        · have hb1 : decide ((9007199254740991 : Int) < (n : Int)) = false := by simp; omega
          have hb2 : decide (9007199254740991 < n) = false := by simp; omega
          cases bl
          · obtain rfl : R = ((n : Int), true) := by rw [← hR.out, HIV.out, if_neg hbig]; rfl
            clear hbig
            go_wp2
            go_ret2
            exact ⟨rfl, HBR.out⟩
          · obtain rfl : R = (-(n : Int), true) := by rw [← hR.out, HIV.out, if_neg hbig]; rfl
            clear hbig
            go_wp2
            go_ret2
            exact ⟨rfl, HBR.out⟩
set_option maxRecDepth 100000 in
set_option maxHeartbeats 400000 in
/-- what is no number, or has no value -/
theorem Int_none (s : ByteArray) (w : World) (HM : Hid (ML w))
    (H1 : Hid (∀ W, ML W → Calls Tryz.prog 153 #[.string s] W fun e w' => e = .returned (.tuple #[.agg #[.bool false, .string (bs []), .int .i64 0], .bool false]) ∧ Below W.heap.size W w')) :
    Calls Tryz.prog 136 #[.string s] w fun e w' => e = .returned (.tuple #[.int .i64 0, .bool false]) ∧ Below w.heap.size w w' := by
  go_enter Tryz.func136, Tryz.ntmps136
  go_wp2_with fail
  refine (H1.out _ HM.out).mono ?_
  rintro e w1 ⟨rfl, hb⟩
  go_wp2
  go_ret2
  exact ⟨rfl, hb.alloc hb.size _⟩
set_option maxRecDepth 100000 in
set_option maxHeartbeats 400000 in
/-- what is not whole, or too long -/
theorem Int_out (s : ByteArray) (bl : Bool) (dg : List UInt8) (p : Int) (w : World) (HM : Hid (ML w)) (hsz : dg.length < 4294967281) (h : p < 0 ∨ 16 < p ∨ 16 < (dg.length : Int) + p)
    (H1 : Hid (∀ W, ML W → Calls Tryz.prog 153 #[.string s] W fun e w' => e = .returned (.tuple #[.agg #[.bool bl, .string (bs dg), .int .i64 p], .bool true]) ∧ Below W.heap.size W w')) :
    Calls Tryz.prog 136 #[.string s] w fun e w' => e = .returned (.tuple #[.int .i64 0, .bool false]) ∧ Below w.heap.size w w' := by
  have hz : (bs dg).size < 4294967281 := by rw [bs_size]; exact hsz
  have h' : p < 0 ∨ 16 < p ∨ 16 < ((bs dg).size : Int) + p := by rw [bs_size]; exact h
  clear h hsz
  by_cases h1 : p < 0
  · clear h'
    go_enter Tryz.func136, Tryz.ntmps136
    go_wp2_with fail
    refine (H1.out _ HM.out).mono ?_
    rintro e w1 ⟨rfl, hb⟩
    go_wp2
    go_ret2
    exact ⟨rfl, hb.alloc hb.size _⟩
  · have q1 : decide (p < 0) = false := by simp; omega
    have h1' : 0 ≤ p := by omega
    by_cases h2 : 16 < p
    · have q2 : decide (16 < p) = true := by simp; omega
      clear h' h1
      go_enter Tryz.func136, Tryz.ntmps136
      go_wp2_with fail
      refine (H1.out _ HM.out).mono ?_
      rintro e w1 ⟨rfl, hb⟩
      go_wp2
      go_ret2
      exact ⟨rfl, hb.alloc hb.size _⟩
    · have h3 : 16 < ((bs dg).size : Int) + p := by omega
      have q2 : decide (16 < p) = false := by simp; omega
      have q3 : decide (16 < ((bs dg).size : Int) + p) = true := by simp; omega
      have h2' : p ≤ 16 := by omega
      clear h' h1 h2
      go_enter Tryz.func136, Tryz.ntmps136
      go_wp2_with fail
      refine (H1.out _ HM.out).mono ?_
      rintro e w1 ⟨rfl, hb⟩
      go_wp2
      go_ret2
      exact ⟨rfl, hb.alloc hb.size _⟩
theorem valOf_len {l : List UInt8} {v : V} (h : ofS l = some v) : v.digits.length ≤ l.length := by
  unfold ofS at h
  split at h
  · unfold Num.valOf at h
    split at h
    · obtain rfl := Option.some.inj h
      simp
    · split at h
      · cases h
      · obtain rfl := Option.some.inj h
        have h1 := trimR_le (digsOf (mantOf (plainOf l))) [48]
        have h2 := digsOf_le (mantOf (plainOf l))
        have h3 := mant_le (plainOf l)
        have h4 : (plainOf l).length ≤ l.length := by unfold plainOf; split <;> simp
        show (trimR (digsOf (mantOf (plainOf l))) [48]).length ≤ l.length
        omega
  · cases h
/-- number.Int. -/
theorem Int_any (s : ByteArray) (l : List UInt8) (h : s.data.toList = l) (w : World) (hM : ML w) (hl : l.length < 4294967281) :
    Calls Tryz.prog 136 #[.string s] w fun e w' => e = .returned (.tuple #[.int .i64 (int l).1, .bool (int l).2]) ∧ Below w.heap.size w w' := by
  have H1 := Lib.hid (fun W (hW : ML W) => of_any s l h W hW hl)
  unfold int
  cases hv : ofS l with
  | none =>
    rw [hv] at H1
    exact Int_none s w (Lib.hid hM) H1
  | some v =>
    have hd := digs_of hv
    have hlen := valOf_len hv
    rw [hv] at H1
    obtain ⟨bl, dg, p⟩ := v
    simp only [vOf, Option.isSome_some] at H1 hd hlen ⊢
    by_cases hp : p < 0 ∨ 16 < p ∨ 16 < (dg.length : Int) + p
    · have e : intV ⟨bl, dg, p⟩ = (0, false) := by unfold intV; rw [if_pos hp]
      rw [e]
      exact Int_out s bl dg p w (Lib.hid hM) (by omega) hp H1
    · obtain ⟨q, rfl⟩ := Int.eq_ofNat_of_zero_le (show 0 ≤ p by omega)
      exact Int_walk s bl dg q _ (Lib.hid rfl) w (Lib.hid hM) hd (by omega) (by omega) H1
end Go.Proofs.YtfploakafbnigaaGreatDoor
namespace Go.Proofs.YtfploakafbnigaaGreatDoor
open Go.RowKit Num
set_option linter.unusedVariables false
set_option linter.unusedSimpArgs false
def cellsOf (l : List UInt8) : List Value := l.map fun b => .int .u8 (b.toNat : Int)
end Go.Proofs.YtfploakafbnigaaGreatDoor
namespace Go.Proofs.YtfploakafbnigaaGreatDoor.Num
set_option linter.unusedVariables false
set_option linter.unusedSimpArgs false
end Go.Proofs.YtfploakafbnigaaGreatDoor.Num
namespace Go.Proofs.YtfploakafbnigaaGreatDoor
open Go.RowKit Num
set_option linter.unusedVariables false
set_option linter.unusedSimpArgs false
theorem RB.head {w : World} {B : Nat} {A : Option Addr} {x : UInt8} {r : List UInt8} (h : RB w B A (x :: r)) : ∃ b off, A = some ⟨b, off, none⟩ ∧ w.cell? ⟨b, off, none⟩ = some (.int .u8 x.toNat) := by
  rcases h with h | ⟨b, off, e, _, hc⟩
  · cases h
  · exact ⟨b, off, e, hc 0 (by simp)⟩
theorem RB.get {w : World} {B : Nat} {A : Option Addr} {l : List UInt8} (h : RB w B A l) (p : Nat) (hp : p < l.length) : ∃ b off, A = some ⟨b, off, none⟩ ∧ w.cell? ⟨b, off + p, none⟩ = some (.int .u8 l[p].toNat) := by
  rcases h with h | ⟨b, off, e, _, hc⟩
  · subst h; simp at hp
  · exact ⟨b, off, e, hc p hp⟩
theorem RB.tail {w : World} {B b off : Nat} {x : UInt8} {r : List UInt8} (h : RB w B (some ⟨b, off, none⟩) (x :: r)) : RB w B (some ⟨b, off + 1, none⟩) r := by
  rcases h with h | ⟨b', off', e, hb, hc⟩
  · cases h
  · have e' := Option.some.inj e
    simp only [Addr.mk.injEq] at e'
    obtain ⟨rfl, rfl, -⟩ := e'
    refine .inr ⟨b, off + 1, rfl, hb, fun j hj => ?_⟩
    have := hc (j + 1) (by simp; omega)
    rw [show off + 1 + j = off + (j + 1) by omega]
    exact this
-- HEAD ENDS
end Go.Proofs.YtfploakafbnigaaGreatDoor
namespace Go.Proofs.YtfploakafbnigaaGreatDoor
open Go.RowKit Num
set_option linter.unusedVariables false
set_option linter.unusedSimpArgs false
theorem Bring_any (i n : Int) (w : World) (hi : -9223372036854775808 ≤ i ∧ i ≤ 9223372036854775807) (hn : 0 < n ∧ n ≤ 1000000) :
    Calls Tryz.prog 40 #[.int .i64 i, .int .i64 n] w fun e w' => e = .returned (.int .i64 (i % n)) ∧ w = w' := by
  have h0 : decide (n ≤ 0) = false := by simp; omega
  have h1 : i.tmod n < 0 → wrap64 (i.tmod n + n) = i % n := fun h => by
    have e := Int.tmod_eq_emod (a := i) (b := n)
    have h3 := Int.emod_lt_of_pos i hn.1
    have h4 := Int.emod_nonneg i (show n ≠ 0 by omega)
    split at e
    · omega
    · unfold wrap64; omega
  have h2 : 0 ≤ i.tmod n → i.tmod n = i % n := fun h => by
    have e := Int.tmod_eq_emod (a := i) (b := n)
    have h3 := Int.emod_lt_of_pos i hn.1
    split at e
    · omega
    · omega
  have H1 := Lib.hid h1
  have H2 := Lib.hid h2
  clear h1 h2
  go_enter Tryz.func40, Tryz.ntmps40
  go_wp2
  · go_ret
    exact ⟨by rw [H1.out (by assumption)]; rfl, rfl⟩
  · go_ret
    exact ⟨by rw [H2.out (by assumption)]; rfl, rfl⟩
end Go.Proofs.YtfploakafbnigaaGreatDoor
namespace Go.Proofs.YtfploakafbnigaaGreatDoor.Num
set_option linter.unusedVariables false
set_option linter.unusedSimpArgs false
end Go.Proofs.YtfploakafbnigaaGreatDoor.Num
