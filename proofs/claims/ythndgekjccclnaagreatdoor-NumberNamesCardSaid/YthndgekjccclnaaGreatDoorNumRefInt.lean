/-
  Layer 9 (number), the walks: the document's answer (colophonref09): Int, at every string.
-/
import Derived.Test.YthndgekjccclnaaGreatDoorNumRefSame
import Derived.Test.YthndgekjccclnaaGreatDoorNumInt
import Derived.WalkKit
import Derived.WalkSpells
import Derived.WalkLawsBesides
import Derived.Deep.DeepFit
import Derived.Lib.Hide
namespace Go.Proofs.YthndgekjccclnaaGreatDoor
open Go.RowKit Num
set_option linter.unusedVariables false
set_option linter.unusedSimpArgs false

theorem decV_noughts (l : List UInt8) (j : Nat) : decV (l ++ List.replicate (j + 1) 48) = decV (l ++ List.replicate j 48) * 10 := by
  rw [List.replicate_succ', ← List.append_assoc, decV_snoc]; rfl
set_option maxRecDepth 100000 in
set_option maxHeartbeats 2000000 in
theorem RefInt_in (s : ByteArray) (bl : Bool) (dg : List UInt8) (p : Nat) (R : Int × Bool) (hR : Hid (intV ⟨bl, dg, p⟩ = R)) (w : World) (hd : Digs dg) (hp : dg.length + p ≤ 16) (H1 : Hid (RefC s (some ⟨bl, dg, p⟩))) :
    Calls Tryz.prog 62 #[.string s] w fun e w' => e = .returned (.tuple #[.int .i64 R.1, .bool R.2]) ∧ Below w.heap.size w w' := by
  have HD := Lib.hid hd
  have HIV : Hid (R = if 9007199254740991 < decV (dg ++ List.replicate p 48) then (0, false) else if bl then (-(decV (dg ++ List.replicate p 48) : Int), true) else (decV (dg ++ List.replicate p 48), true)) := by
    refine Lib.hid ?_
    rw [← hR.out]
    unfold intV intN
    rw [if_neg (by show ¬ ((p : Int) < 0 ∨ 16 < (p : Int) ∨ 16 < (dg.length : Int) + (p : Int)); omega)]
    rfl
  clear hd hR
  go_enter Tryz.func62, Tryz.ntmps62
  go_wp2_with fail
  refine (H1.out _).mono ?_
  rintro e w1 ⟨hq, hb⟩
  obtain ⟨A, c, rfl, hr⟩ := hq.some
  have hb2 : Below w.heap.size w (w1.alloc (.cells #[.bool bl, .slice A dg.length c, .int .i64 p] 131)) := hb.alloc hb.size _
  have hr2 : RB (w1.alloc (.cells #[.bool bl, .slice A dg.length c, .int .i64 p] 131)) w1.heap.size A dg := hr.on ((Below.refl _ w1).alloc (Nat.le_refl _) _)
  have k0 : (w1.alloc (.cells #[.bool bl, .slice A dg.length c, .int .i64 p] 131)).cell? ⟨w1.heap.size, 0, none⟩ = some (.bool bl) := by rw [cell_of_row _ _ 0 _ _ _ (heap_alloc_new w1 _)]; rfl
  have k1 : (w1.alloc (.cells #[.bool bl, .slice A dg.length c, .int .i64 p] 131)).cell? ⟨w1.heap.size, 1, none⟩ = some (.slice A dg.length c) := by rw [cell_of_row _ _ 1 _ _ _ (heap_alloc_new w1 _)]; rfl
  have k2 : (w1.alloc (.cells #[.bool bl, .slice A dg.length c, .int .i64 p] 131)).cell? ⟨w1.heap.size, 2, none⟩ = some (.int .i64 p) := by rw [cell_of_row _ _ 2 _ _ _ (heap_alloc_new w1 _)]; rfl
  have HB := Lib.hid hb2
  have HR := Lib.hid hr2
  clear hb hq hr hb2 hr2
  go_upto_block 0 with fail
  generalize w1.alloc (.cells #[.bool bl, .slice A dg.length c, .int .i64 p] 131) = W at *
  go_wp2_with fail
  go_loopg [6, 7] dg.length (fun k v6 v7 wr => ∃ q : Nat, q + k = dg.length ∧ v7 = .int .i64 q ∧ v6 = .int .i64 (decV (dg.take q)) ∧ W = wr)
  case atStart => exact ⟨0, by omega, rfl, rfl, rfl⟩
  case round =>
    obtain ⟨q, hk, rfl, rfl, rfl⟩ := hrel
    have HK := Lib.hid hk
    clear hk
    by_cases hq : q < dg.length
    · obtain ⟨b', off', rfl, hk⟩ := HR.out.get q hq
      have hdg := isD_range (HD.out _ (List.getElem_mem hq))
      have hlt := decV_lt (dg.take q) (fun x hx => HD.out x (List.mem_of_mem_take hx)) 16 (by rw [List.length_take]; omega)
      have HV : Hid (decV (dg.take (q + 1)) = decV (dg.take q) * 10 + (dg[q].toNat - 48)) := Lib.hid (by rw [take_snoc' dg q hq, decV_snoc])
      generalize dg[q].toNat = z at *
      generalize decV (dg.take q) = m at *
      have h1 : (48 : Int) ≤ z := by omega
      have h2 : (z : Int) ≤ 57 := by omega
      have h3 : (m : Int) ≤ 10000000000000000 := by omega
      have h4 : (0 : Int) ≤ m := by omega
      have hq16 : q ≤ 16 := by omega
      have g0 : decide ((q : Int) < (dg.length : Int)) = true := by simp; omega
      clear hlt hdg
      go_wp2
      go_roundg (gk - 1)
      case measure => have := HK.out; omega
      case rel => exact ⟨q + 1, by have := HK.out; omega, by go_num, by rw [HV.out]; congr 1; omega, rfl⟩
    · have g0 : decide ((q : Int) < (dg.length : Int)) = false := by simp; omega
      have g1 : decide (q < dg.length) = false := by simp; omega
      have e1 : dg.take q = dg ++ List.replicate 0 48 := by rw [List.take_of_length_le (by omega)]; simp
      rw [e1]
      have HP := Lib.hid hp
      clear e1 hq
      go_wp2
      go_loopg [6, 8] p (fun k v6 v8 wr => ∃ j : Nat, j + k = p ∧ v8 = .int .i64 j ∧ v6 = .int .i64 (decV (dg ++ List.replicate j 48)) ∧ W = wr)
      case atStart => exact ⟨0, by omega, rfl, rfl, rfl⟩
      case round =>
        obtain ⟨j, hk, rfl, rfl, rfl⟩ := hrel
        have HK2 := Lib.hid hk
        clear hk
        have hlt := decV_lt (dg ++ List.replicate j 48) (digs_append HD.out (fun x hx => by rw [(List.mem_replicate.1 hx).2]; rfl)) 16 (by rw [List.length_append, List.length_replicate]; have := HK2.out; have := HP.out; omega)
        by_cases hj : j < p
        · have HV := Lib.hid (decV_noughts dg j)
          have hlt2 := decV_lt (dg ++ List.replicate (j + 1) 48) (digs_append HD.out (fun x hx => by rw [(List.mem_replicate.1 hx).2]; rfl)) 16 (by rw [List.length_append, List.length_replicate]; have := HP.out; omega)
          rw [HV.out] at hlt2
          generalize decV (dg ++ List.replicate j 48) = m at *
          have h3 : (m : Int) ≤ 10000000000000000 := by omega
          have h4 : (0 : Int) ≤ m := by omega
          have hj16 : j ≤ 16 := by omega
          have g2 : decide ((j : Int) < (p : Int)) = true := by simp; omega
          clear hlt hlt2
          go_wp2
          go_roundg (gk - 1)
          case measure => have := HK2.out; omega
          case rel => exact ⟨j + 1, by have := HK2.out; omega, by go_num, by rw [HV.out]; congr 1, rfl⟩
        · obtain rfl : j = p := by have := HK2.out; omega
          generalize decV (dg ++ List.replicate j 48) = n at *
          have h3 : (n : Int) ≤ 10000000000000000 := by omega
          have h4 : (0 : Int) ≤ n := by omega
          clear hlt hj
          by_cases hbig : 9007199254740991 < n
          · have hb1 : decide ((9007199254740991 : Int) < (n : Int)) = true := by simp; omega
            have hb2 : decide (9007199254740991 < n) = true := by simp; omega
            obtain rfl : R = (0, false) := by rw [HIV.out, if_pos hbig]
            clear hbig
            go_wp2
            go_ret2
            exact ⟨rfl, HB.out⟩
          · have hb1 : decide ((9007199254740991 : Int) < (n : Int)) = false := by simp; omega
            have hb2 : decide (9007199254740991 < n) = false := by simp; omega
            cases bl
            · obtain rfl : R = ((n : Int), true) := by rw [HIV.out, if_neg hbig]; rfl
              clear hbig
              go_wp2
              go_ret2
              exact ⟨rfl, HB.out⟩
            · obtain rfl : R = (-(n : Int), true) := by rw [HIV.out, if_neg hbig]; rfl
              clear hbig
              go_wp2
              go_ret2
              exact ⟨rfl, HB.out⟩

set_option maxRecDepth 100000 in
set_option maxHeartbeats 1000000 in
theorem RefInt_none (s : ByteArray) (w : World) (H1 : Hid (RefC s none)) :
    Calls Tryz.prog 62 #[.string s] w fun e w' => e = .returned (.tuple #[.int .i64 0, .bool false]) ∧ Below w.heap.size w w' := by
  go_enter Tryz.func62, Tryz.ntmps62
  go_wp2_with fail
  refine (H1.out _).mono ?_
  rintro e w1 ⟨hq, hb⟩
  obtain ⟨bl, A, n, c, pw, rfl⟩ := hq.none
  have HB := Lib.hid (hb.alloc hb.size (.cells #[.bool bl, .slice A n c, .int .i64 pw] 131))
  clear hb hq
  go_wp2
  go_ret2
  exact ⟨rfl, HB.out⟩
set_option maxRecDepth 100000 in
set_option maxHeartbeats 1000000 in
theorem RefInt_out (s : ByteArray) (bl : Bool) (dg : List UInt8) (p : Int) (w : World) (hl : dg.length ≤ 4294967280) (h : p < 0 ∨ 16 < p ∨ 16 < (dg.length : Int) + p) (H1 : Hid (RefC s (some ⟨bl, dg, p⟩))) :
    Calls Tryz.prog 62 #[.string s] w fun e w' => e = .returned (.tuple #[.int .i64 0, .bool false]) ∧ Below w.heap.size w w' := by
  have hcase : p < 0 ∨ (0 ≤ p ∧ 16 < dg.length) ∨ (0 ≤ p ∧ dg.length ≤ 16 ∧ 16 < p) ∨ (0 ≤ p ∧ p ≤ 16 ∧ dg.length ≤ 16 ∧ 16 < (dg.length : Int) + p) := by omega
  clear h
  rcases hcase with h | ⟨h0, h⟩ | ⟨h0, h1, h⟩ | ⟨h0, h1, h2, h⟩
  all_goals
    go_enter Tryz.func62, Tryz.ntmps62
    go_wp2_with fail
    refine (H1.out _).mono ?_
    rintro e w1 ⟨hq, hb⟩
    obtain ⟨A, c, rfl, hr⟩ := hq.some
    have HB := Lib.hid (hb.alloc hb.size (.cells #[.bool bl, .slice A dg.length c, .int .i64 p] 131))
    clear hb hq hr
    generalize dg.length = L at *
    go_wp2
    go_ret2
    exact ⟨rfl, HB.out⟩
/-- colophonref09.Int. -/
theorem refInt_any (s : ByteArray) (l : List UInt8) (hl : s.data.toList = l) (w : World) (hn : l.length ≤ 4294967280) :
    Calls Tryz.prog 62 #[.string s] w fun e w' => e = .returned (.tuple #[.int .i64 (int l).1, .bool (int l).2]) ∧ Below w.heap.size w w' := by
  have H1 := Lib.hid (show RefC s (ofS l) from fun W => RefOf_any s l hl W hn)
  have hd := fun v (h : ofS l = some v) => digs_of h
  have hz := fun v (h : ofS l = some v) => ofS_len h
  unfold int
  generalize ofS l = o at *
  cases o with
  | none => exact RefInt_none s w H1
  | some v =>
    obtain ⟨bl, dg, p⟩ := v
    have hdd := hd _ rfl
    have hzz := hz _ rfl
    show Calls Tryz.prog 62 #[.string s] w fun e w' => e = .returned (.tuple #[.int .i64 (intV ⟨bl, dg, p⟩).1, .bool (intV ⟨bl, dg, p⟩).2]) ∧ Below w.heap.size w w'
    by_cases h : p < 0 ∨ 16 < p ∨ 16 < (dg.length : Int) + p
    · rw [show intV ⟨bl, dg, p⟩ = (0, false) by unfold intV; rw [if_pos h]]
      exact RefInt_out s bl dg p w (Nat.le_trans hzz hn) h H1
    · obtain ⟨k, rfl⟩ : ∃ k : Nat, p = k := ⟨p.toNat, by omega⟩
      exact RefInt_in s bl dg k _ (Lib.hid rfl) w hdd (by omega) H1
end Go.Proofs.YthndgekjccclnaaGreatDoor
