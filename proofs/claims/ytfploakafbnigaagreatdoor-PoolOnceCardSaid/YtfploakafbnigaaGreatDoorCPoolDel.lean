/-
  Layer 28, the walks: slices.Delete.
-/
import Derived.Test.YtfploakafbnigaaGreatDoorCPoolMem
import Derived.Deep.LoopGhost
import Derived.Deep.RegionLaw
namespace Go.Proofs.YtfploakafbnigaaGreatDoor
open Go.RowKit Val Pl YtfploakafbnigaaGreatDoorW.PrintLast
set_option linter.unusedVariables false
set_option linter.unusedSimpArgs false
theorem info_i : (Tryz.prog.info? 132).map (fun i => (i.zero, i.size, i.bytes)) = some (some (.agg #[.bool false, .int .i64 0, .bool false, .string .empty, .slice none 0 0, .slice none 0 0, .string .empty, .int .i64 0, .bool false]), 9, 120) := by kernel_rfl
theorem zero_i (w : World) : (zeroValue 132).run Tryz.prog w = .ok (.agg #[.bool false, .int .i64 0, .bool false, .string .empty, .slice none 0 0, .slice none 0 0, .string .empty, .int .i64 0, .bool false]) w := by kernel_rfl
theorem zrow_i : (Builtin.zeroCells (Value.agg #[.bool false, .int .i64 0, .bool false, .string .empty, .slice none 0 0, .slice none 0 0, .string .empty, .int .i64 0, .bool false]).cells 1).toList = [.bool false, .int .i64 0, .bool false, .string .empty, .slice none 0 0, .slice none 0 0, .string .empty, .int .i64 0, .bool false] := by kernel_rfl
theorem one_i (x : Int) : ((Value.int .i64) x).oneCell' = true := rfl
theorem size_i (w : World) : (sizeOf (Tryz.prog.elem 83)).run Tryz.prog w = .ok 9 w := by kernel_rfl
set_option maxRecDepth 100000 in
set_option maxHeartbeats 4000000 in
theorem del_i (zs : List (Job Int)) (B i : Nat) (a b : Int) (v : Value) (w : World) (hq : w.ownsRow B 132 9 v zs.length (jcs (Value.int .i64) zs)) (hl : zs.length ≤ 64) (hi : i < zs.length) (ha : a = (i : Int)) (hb : b = (i : Int) + 1) :
    Calls Tryz.prog 109 #[v, .int .i64 a, .int .i64 b] w fun e w' => ∃ g cap, v = .slice (some ⟨g, 0, none⟩) zs.length cap ∧ e = .returned (.slice (some ⟨g, 0, none⟩) (zs.length - 1) cap) ∧
      w'.ownsRow B 132 9 (.slice (some ⟨g, 0, none⟩) (zs.length - 1) cap) (zs.eraseIdx i).length (jcs (Value.int .i64) (zs.eraseIdx i)) ∧ But g w w' := by
  subst ha hb
  rcases hq.2 with ⟨_, h0⟩ | ⟨g, cap, cur, rfl, hB, hg, hn, hc, hs, ht⟩
  · omega
  have HG : Hid (BK w g 132 cur) := Lib.hid hg
  have HE := Lib.hid (fun (w' : World) (c2 : Array Value) (cur1 : List Value) h1 h2 hg => own_erase (enc := (Value.int .i64)) (Tj := 132) (w := w) (w' := w') (zr := [.bool false, .int .i64 0, .bool false, .string .empty, .slice none 0 0, .slice none 0 0, .string .empty, .int .i64 0, .bool false]) (c2 := c2) hi hB hn hc (by rw [Array.length_toList]; exact hs) ht rfl (cur1 := cur1) h1 h2 hg)
  have hcells : ∀ k u, (jcs (Value.int .i64) zs)[k]? = some u → w.cell? ⟨g, k, none⟩ = some u := fun k u hu => by
    have hk : k < zs.length * 9 := by have := (List.getElem?_eq_some_iff.1 hu).1; rw [jcs_len] at this; exact this
    rw [← ht, List.getElem?_take, if_pos hk] at hu
    rw [cell_of_row w g k _ _ _ hg]; simpa using hu
  have HS := Lib.hid hs
  have HCL := Lib.hid hcells
  obtain ⟨n, hnn⟩ : ∃ n, zs.length = n := ⟨_, rfl⟩
  have HNN := Lib.hid hnn
  rw [hnn] at hl hi hn HE ⊢
  have ht0 : Tryz.prog.underlying 83 = some (.slice (Tryz.prog.elem 83)) := by kernel_rfl
  have hs0 : ∀ W : World, (Instr.slice 83 (.slice (some ⟨g, 0, none⟩) n cap) (some (.int .i64 (i : Int))) (some (.int .i64 ((i : Int) + 1))) (some (.int .i64 (n : Int)))).run Tryz.prog W = .ok (sliced (some ⟨g, 0, none⟩) i (i + 1) n 9) W := fun W => by
    rw [run_slice_lhm W _ _ n cap ht0 .i64 .i64 .i64 (i : Int) ((i : Int) + 1) (n : Int) (by omega) (by omega) (by omega) (by omega), size_i]; rfl
  have hs1 : ∀ W : World, (Instr.slice 83 (.slice (some ⟨g, 0, none⟩) n cap) none (some (.int .i64 (i : Int))) none).run Tryz.prog W = .ok (.slice (some ⟨g, 0, none⟩) i cap) W := fun W => by
    rw [run_slice_h W _ _ n cap ht0 .i64 (i : Int) (by omega) (by omega), size_i]
    simp [Result.andThen, sliced, Addr.add]
  obtain ⟨d, hd⟩ : ∃ d, d = if cap = i + 1 then 0 else (i + 1) * 9 := ⟨_, rfl⟩
  have hs2 : ∀ W : World, (Instr.slice 83 (.slice (some ⟨g, 0, none⟩) n cap) (some (.int .i64 ((i : Int) + 1))) none none).run Tryz.prog W = .ok (.slice (some ⟨g, d, none⟩) (n - (i + 1)) (cap - (i + 1))) W := fun W => by
    rw [run_slice_l W _ _ n cap ht0 .i64 ((i : Int) + 1) (by omega) (by omega), size_i]
    have : ((i : Int) + 1).toNat = i + 1 := by omega
    simp only [Result.andThen, sliced, this, hd]
    split <;> simp [Addr.add]
  have q0 : ((i : Int) == (i : Int) + 1) = false := by rw [beq_eq_false_iff_ne]; omega
  have hnews : ∀ j u, (jcs (Value.int .i64) (zs.drop (i + 1)))[j]? = some u → w.cell? ((⟨g, d, none⟩ : Addr).add j) = some u := fun j u hu => by
    have hj : j < (n - (i + 1)) * 9 := by have := (List.getElem?_eq_some_iff.1 hu).1; rw [jcs_len, List.length_drop, HNN.out] at this; exact this
    have hdd : d = (i + 1) * 9 := by rw [hd, if_neg (by omega)]
    have e1 : (jcs (Value.int .i64) (zs.take (i + 1))).length = (i + 1) * 9 := by rw [jcs_len, List.length_take, HNN.out]; congr 1; omega
    have e2 : jcs (Value.int .i64) zs = jcs (Value.int .i64) (zs.take (i + 1)) ++ jcs (Value.int .i64) (zs.drop (i + 1)) := by rw [← jcs_append, List.take_append_drop]
    rw [Addr.add_lit]
    refine HCL.out (d + j) u ?_
    rw [e2, List.getElem?_append_right (by rw [e1, hdd]; omega), e1, hdd]
    rw [show (i + 1) * 9 + j - (i + 1) * 9 = j by omega]; exact hu
  have HNW := Lib.hid hnews
  have HKL : Hid ((jcs (Value.int .i64) (zs.drop (i + 1))).length = (n - (i + 1)) * 9) := Lib.hid (by rw [jcs_len, List.length_drop, HNN.out])
  have HKO := Lib.hid (jc_one (enc := (Value.int .i64)) one_i (zs.drop (i + 1)))
  generalize jcs (Value.int .i64) (zs.drop (i + 1)) = news at *
  obtain ⟨i0, hi0, hz0, hz1, hz2⟩ := info_parts info_i
  have HI0 := Lib.hid hi0
  have HZ1 := Lib.hid hz1
  have hsl := Lib.hid hs
  clear hg ht hs hcells hd hnews hi0 hz0 hz1 hz2 hnn hq ht0
  go_enter Tryz.func109, Tryz.ntmps109
  go_wp2_with fail
  obtain ⟨cur1, h1⟩ : ∃ l : List Value, l = cur.toList.take (i * 9) ++ news ++ cur.toList.drop (i * 9 + news.length) := ⟨_, rfl⟩
  have H1 := Lib.hid h1
  refine start_ (n := 8) (S := fun _ => True) (ds := []) #[false, false, false, false, false, false, false, false] (by kernel_rfl) rfl rfl trivial (fun hHeld => ?_)
  have HB1 := Lib.hid ((Below.refl w.heap.size w).drew)
  have HG1 := Lib.hid (HG.out.on HB1.out)
  have HN1 : Hid (∀ (j : Nat) (u : Value), news[j]? = some u → w.drew.cell? ((⟨g, d, none⟩ : Addr).add j) = some u) := Lib.hid HNW.out
  generalize w.drew = w1 at *
  refine pure_ (i := 0) (N := some 20) (v := ?_) (a' := ?_) #[true, false, false, false, false, false, false, false] rfl rfl (by kernel_rfl) (fun _ _ _ h => h) (Or.inl ⟨by rfl, ?_⟩) ?_ ?_
  rotate_left
  · intro w'; go_simp; with_reducible rfl
  rotate_left
  · simp only [Act.put, List.setIfInBounds_toArray, List.set_cons_zero, List.set_cons_succ, i64_w, i32_w]; rfl
  refine pure_ (i := 1) (N := some 21) (v := ?_) (a' := ?_) #[true, true, false, false, false, false, false, false] rfl rfl (by kernel_rfl) (fun _ _ _ h => h) (Or.inl ⟨by rfl, ?_⟩) ?_ ?_
  rotate_left
  · intro w'; go_simp; with_reducible rfl
  rotate_left
  · simp only [Act.put, List.setIfInBounds_toArray, List.set_cons_zero, List.set_cons_succ, i64_w, i32_w]; rfl
  refine pure_ (i := 2) (N := some 22) (v := ?_) (a' := ?_) #[true, true, true, false, false, false, false, false] rfl rfl (by kernel_rfl) (fun _ _ _ h => h) (Or.inl ⟨by rfl, ?_⟩) ?_ ?_
  rotate_left
  · intro w'; go_simp; with_reducible rfl
  rotate_left
  · simp only [Act.put, List.setIfInBounds_toArray, List.set_cons_zero, List.set_cons_succ, i64_w, i32_w]; rfl
  refine pure_ (i := 3) (N := some 23) (v := ?_) (a' := ?_) #[true, true, true, true, false, false, false, false] rfl rfl (by kernel_rfl) (fun _ _ _ h => h) (Or.inl ⟨by rfl, ?_⟩) ?_ ?_
  rotate_left
  · intro w'; go_simp; with_reducible rfl
  rotate_left
  · simp only [Act.put, List.setIfInBounds_toArray, List.set_cons_zero, List.set_cons_succ, i64_w, i32_w]; rfl
  refine pure_ (i := 4) (N := some 24) (v := ?_) (a' := ?_) #[true, true, true, true, true, false, false, false] rfl rfl (by kernel_rfl) (fun _ _ _ h => h) (Or.inl ⟨by rfl, ?_⟩) ?_ ?_
  rotate_left
  · intro w'; go_simp; with_reducible rfl
  rotate_left
  · simp only [Act.put, List.setIfInBounds_toArray, List.set_cons_zero, List.set_cons_succ, i64_w, i32_w]; rfl
  refine pure_ (i := 5) (N := some 25) (v := ?_) (a' := ?_) #[true, true, true, true, true, true, false, false] rfl rfl (by kernel_rfl) (fun _ _ _ h => h) (Or.inl ⟨by rfl, ?_⟩) ?_ ?_
  rotate_left
  · intro w'; go_simp; with_reducible rfl
  rotate_left
  · simp only [Act.put, List.setIfInBounds_toArray, List.set_cons_zero, List.set_cons_succ, i64_w, i32_w]; rfl
  refine one_ (i := 6) (N := some 26) #[true, true, true, true, true, true, true, false] rfl rfl (by kernel_rfl) (by decide) (fun K hK => ?_)
  refine step_append_row rfl (.tmp 22) (.tmp 25) 83 rfl 132 i0 9 Tryz.underlying83 HI0.out HZ1.out g i cap (by rfl) cur HG1.out ⟨g, d, none⟩ (n - (i + 1)) (cap - (i + 1)) news (by rfl) HKL.out HN1.out HKO.out (n - 1) (by omega) (by omega) (by rw [HKL.out, HS.out]; omega) ?_
  refine hK.out _ _ trivial (fun _ => ?_)
  clear hK K hHeld
  refine norm_ (a' := ?_) ?_ ?_
  rotate_left
  · show Act.put _ (some 26) _ = _; simp only [Act.put, List.setIfInBounds_toArray, List.set_cons_zero, List.set_cons_succ, i64_w, i32_w]; rfl
  refine pure_ (i := 7) (N := some 0) (v := ?_) (a' := ?_) #[true, true, true, true, true, true, true, true] rfl rfl (by kernel_rfl) (fun _ _ _ h => h) (Or.inl ⟨by rfl, ?_⟩) ?_ ?_
  rotate_left
  · intro w'; go_simp; with_reducible rfl
  rotate_left
  · simp only [Act.put, List.setIfInBounds_toArray, List.set_cons_zero, List.set_cons_succ, i64_w, i32_w]; rfl
  refine done_ (by kernel_rfl) ?_

  obtain ⟨w2, hw2⟩ : ∃ x, x = w1.setRow g (cur.toList.take (i * 9) ++ news ++ cur.toList.drop (i * 9 + news.length)).toArray := ⟨_, rfl⟩
  rw [← hw2]
  rw [← H1.out] at hw2
  have hg2 : BK w2 g 132 cur1.toArray := by rw [hw2]; exact HG1.out.row _
  have hb2 : But g w1 w2 := by rw [hw2]; exact row_but _ _ _
  have HG2 := Lib.hid hg2
  have HB2 := Lib.hid hb2
  have HC1 : Hid (cur1.length = cap * 9) := Lib.hid (by rw [H1.out, List.length_append, List.length_append, List.length_take, List.length_drop, HKL.out, Array.length_toList, HS.out]; omega)
  clear hg2 hb2 hw2 h1 q0 hs0 hs1 hs2
  go_wp2_with (refine wpList_clear_row rfl rfl (.tmp 31) 83 rfl 132 132 _ _ Tryz.underlying83 zero_i zrow_i g ((n - 1) * 9) (cap - (n - 1)) (n - (n - 1)) (by rfl) (by omega) cur1.toArray HG2.out (by rw [List.size_toArray, HC1.out]; show (n - 1) * 9 + 9 ≤ _; omega) (by simp [Value.oneCell']) ?_)
  go_ret
  exact ⟨g, cap, rfl, rfl, HE.out _ _ cur1 H1.out rfl (HG2.out.row _), (But.of HB1.out).trans (HB2.out.trans (row_but _ _ _))⟩
theorem info_s : (Tryz.prog.info? 203).map (fun i => (i.zero, i.size, i.bytes)) = some (some (.agg #[.bool false, .int .i64 0, .bool false, .string .empty, .slice none 0 0, .slice none 0 0, .string .empty, .string .empty, .bool false]), 9, 128) := by kernel_rfl
theorem zero_s (w : World) : (zeroValue 203).run Tryz.prog w = .ok (.agg #[.bool false, .int .i64 0, .bool false, .string .empty, .slice none 0 0, .slice none 0 0, .string .empty, .string .empty, .bool false]) w := by kernel_rfl
theorem zrow_s : (Builtin.zeroCells (Value.agg #[.bool false, .int .i64 0, .bool false, .string .empty, .slice none 0 0, .slice none 0 0, .string .empty, .string .empty, .bool false]).cells 1).toList = [.bool false, .int .i64 0, .bool false, .string .empty, .slice none 0 0, .slice none 0 0, .string .empty, .string .empty, .bool false] := by kernel_rfl
theorem one_s (x : ByteArray) : (Value.string x).oneCell' = true := rfl
theorem size_s (w : World) : (sizeOf (Tryz.prog.elem 198)).run Tryz.prog w = .ok 9 w := by kernel_rfl
set_option maxRecDepth 100000 in
set_option maxHeartbeats 4000000 in
theorem del_s (zs : List (Job ByteArray)) (B i : Nat) (a b : Int) (v : Value) (w : World) (hq : w.ownsRow B 203 9 v zs.length (jcs Value.string zs)) (hl : zs.length ≤ 64) (hi : i < zs.length) (ha : a = (i : Int)) (hb : b = (i : Int) + 1) :
    Calls Tryz.prog 165 #[v, .int .i64 a, .int .i64 b] w fun e w' => ∃ g cap, v = .slice (some ⟨g, 0, none⟩) zs.length cap ∧ e = .returned (.slice (some ⟨g, 0, none⟩) (zs.length - 1) cap) ∧
      w'.ownsRow B 203 9 (.slice (some ⟨g, 0, none⟩) (zs.length - 1) cap) (zs.eraseIdx i).length (jcs Value.string (zs.eraseIdx i)) ∧ But g w w' := by
  subst ha hb
  rcases hq.2 with ⟨_, h0⟩ | ⟨g, cap, cur, rfl, hB, hg, hn, hc, hs, ht⟩
  · omega
  have HG : Hid (BK w g 203 cur) := Lib.hid hg
  have HE := Lib.hid (fun (w' : World) (c2 : Array Value) (cur1 : List Value) h1 h2 hg => own_erase (enc := Value.string) (Tj := 203) (w := w) (w' := w') (zr := [.bool false, .int .i64 0, .bool false, .string .empty, .slice none 0 0, .slice none 0 0, .string .empty, .string .empty, .bool false]) (c2 := c2) hi hB hn hc (by rw [Array.length_toList]; exact hs) ht rfl (cur1 := cur1) h1 h2 hg)
  have hcells : ∀ k u, (jcs Value.string zs)[k]? = some u → w.cell? ⟨g, k, none⟩ = some u := fun k u hu => by
    have hk : k < zs.length * 9 := by have := (List.getElem?_eq_some_iff.1 hu).1; rw [jcs_len] at this; exact this
    rw [← ht, List.getElem?_take, if_pos hk] at hu
    rw [cell_of_row w g k _ _ _ hg]; simpa using hu
  have HS := Lib.hid hs
  have HCL := Lib.hid hcells
  obtain ⟨n, hnn⟩ : ∃ n, zs.length = n := ⟨_, rfl⟩
  have HNN := Lib.hid hnn
  rw [hnn] at hl hi hn HE ⊢
  have ht0 : Tryz.prog.underlying 198 = some (.slice (Tryz.prog.elem 198)) := by kernel_rfl
  have hs0 : ∀ W : World, (Instr.slice 198 (.slice (some ⟨g, 0, none⟩) n cap) (some (.int .i64 (i : Int))) (some (.int .i64 ((i : Int) + 1))) (some (.int .i64 (n : Int)))).run Tryz.prog W = .ok (sliced (some ⟨g, 0, none⟩) i (i + 1) n 9) W := fun W => by
    rw [run_slice_lhm W _ _ n cap ht0 .i64 .i64 .i64 (i : Int) ((i : Int) + 1) (n : Int) (by omega) (by omega) (by omega) (by omega), size_s]; rfl
  have hs1 : ∀ W : World, (Instr.slice 198 (.slice (some ⟨g, 0, none⟩) n cap) none (some (.int .i64 (i : Int))) none).run Tryz.prog W = .ok (.slice (some ⟨g, 0, none⟩) i cap) W := fun W => by
    rw [run_slice_h W _ _ n cap ht0 .i64 (i : Int) (by omega) (by omega), size_s]
    simp [Result.andThen, sliced, Addr.add]
  obtain ⟨d, hd⟩ : ∃ d, d = if cap = i + 1 then 0 else (i + 1) * 9 := ⟨_, rfl⟩
  have hs2 : ∀ W : World, (Instr.slice 198 (.slice (some ⟨g, 0, none⟩) n cap) (some (.int .i64 ((i : Int) + 1))) none none).run Tryz.prog W = .ok (.slice (some ⟨g, d, none⟩) (n - (i + 1)) (cap - (i + 1))) W := fun W => by
    rw [run_slice_l W _ _ n cap ht0 .i64 ((i : Int) + 1) (by omega) (by omega), size_s]
    have : ((i : Int) + 1).toNat = i + 1 := by omega
    simp only [Result.andThen, sliced, this, hd]
    split <;> simp [Addr.add]
  have q0 : ((i : Int) == (i : Int) + 1) = false := by rw [beq_eq_false_iff_ne]; omega
  have hnews : ∀ j u, (jcs Value.string (zs.drop (i + 1)))[j]? = some u → w.cell? ((⟨g, d, none⟩ : Addr).add j) = some u := fun j u hu => by
    have hj : j < (n - (i + 1)) * 9 := by have := (List.getElem?_eq_some_iff.1 hu).1; rw [jcs_len, List.length_drop, HNN.out] at this; exact this
    have hdd : d = (i + 1) * 9 := by rw [hd, if_neg (by omega)]
    have e1 : (jcs Value.string (zs.take (i + 1))).length = (i + 1) * 9 := by rw [jcs_len, List.length_take, HNN.out]; congr 1; omega
    have e2 : jcs Value.string zs = jcs Value.string (zs.take (i + 1)) ++ jcs Value.string (zs.drop (i + 1)) := by rw [← jcs_append, List.take_append_drop]
    rw [Addr.add_lit]
    refine HCL.out (d + j) u ?_
    rw [e2, List.getElem?_append_right (by rw [e1, hdd]; omega), e1, hdd]
    rw [show (i + 1) * 9 + j - (i + 1) * 9 = j by omega]; exact hu
  have HNW := Lib.hid hnews
  have HKL : Hid ((jcs Value.string (zs.drop (i + 1))).length = (n - (i + 1)) * 9) := Lib.hid (by rw [jcs_len, List.length_drop, HNN.out])
  have HKO := Lib.hid (jc_one (enc := Value.string) one_s (zs.drop (i + 1)))
  generalize jcs Value.string (zs.drop (i + 1)) = news at *
  obtain ⟨i0, hi0, hz0, hz1, hz2⟩ := info_parts info_s
  have HI0 := Lib.hid hi0
  have HZ1 := Lib.hid hz1
  have hsl := Lib.hid hs
  clear hg ht hs hcells hd hnews hi0 hz0 hz1 hz2 hnn hq ht0
  go_enter Tryz.func165, Tryz.ntmps165
  go_wp2_with fail
  obtain ⟨cur1, h1⟩ : ∃ l : List Value, l = cur.toList.take (i * 9) ++ news ++ cur.toList.drop (i * 9 + news.length) := ⟨_, rfl⟩
  have H1 := Lib.hid h1
  refine start_ (n := 8) (S := fun _ => True) (ds := []) #[false, false, false, false, false, false, false, false] (by kernel_rfl) rfl rfl trivial (fun hHeld => ?_)
  have HB1 := Lib.hid ((Below.refl w.heap.size w).drew)
  have HG1 := Lib.hid (HG.out.on HB1.out)
  have HN1 : Hid (∀ (j : Nat) (u : Value), news[j]? = some u → w.drew.cell? ((⟨g, d, none⟩ : Addr).add j) = some u) := Lib.hid HNW.out
  generalize w.drew = w1 at *
  refine pure_ (i := 0) (N := some 20) (v := ?_) (a' := ?_) #[true, false, false, false, false, false, false, false] rfl rfl (by kernel_rfl) (fun _ _ _ h => h) (Or.inl ⟨by rfl, ?_⟩) ?_ ?_
  rotate_left
  · intro w'; go_simp; with_reducible rfl
  rotate_left
  · simp only [Act.put, List.setIfInBounds_toArray, List.set_cons_zero, List.set_cons_succ, i64_w, i32_w]; rfl
  refine pure_ (i := 1) (N := some 21) (v := ?_) (a' := ?_) #[true, true, false, false, false, false, false, false] rfl rfl (by kernel_rfl) (fun _ _ _ h => h) (Or.inl ⟨by rfl, ?_⟩) ?_ ?_
  rotate_left
  · intro w'; go_simp; with_reducible rfl
  rotate_left
  · simp only [Act.put, List.setIfInBounds_toArray, List.set_cons_zero, List.set_cons_succ, i64_w, i32_w]; rfl
  refine pure_ (i := 2) (N := some 22) (v := ?_) (a' := ?_) #[true, true, true, false, false, false, false, false] rfl rfl (by kernel_rfl) (fun _ _ _ h => h) (Or.inl ⟨by rfl, ?_⟩) ?_ ?_
  rotate_left
  · intro w'; go_simp; with_reducible rfl
  rotate_left
  · simp only [Act.put, List.setIfInBounds_toArray, List.set_cons_zero, List.set_cons_succ, i64_w, i32_w]; rfl
  refine pure_ (i := 3) (N := some 23) (v := ?_) (a' := ?_) #[true, true, true, true, false, false, false, false] rfl rfl (by kernel_rfl) (fun _ _ _ h => h) (Or.inl ⟨by rfl, ?_⟩) ?_ ?_
  rotate_left
  · intro w'; go_simp; with_reducible rfl
  rotate_left
  · simp only [Act.put, List.setIfInBounds_toArray, List.set_cons_zero, List.set_cons_succ, i64_w, i32_w]; rfl
  refine pure_ (i := 4) (N := some 24) (v := ?_) (a' := ?_) #[true, true, true, true, true, false, false, false] rfl rfl (by kernel_rfl) (fun _ _ _ h => h) (Or.inl ⟨by rfl, ?_⟩) ?_ ?_
  rotate_left
  · intro w'; go_simp; with_reducible rfl
  rotate_left
  · simp only [Act.put, List.setIfInBounds_toArray, List.set_cons_zero, List.set_cons_succ, i64_w, i32_w]; rfl
  refine pure_ (i := 5) (N := some 25) (v := ?_) (a' := ?_) #[true, true, true, true, true, true, false, false] rfl rfl (by kernel_rfl) (fun _ _ _ h => h) (Or.inl ⟨by rfl, ?_⟩) ?_ ?_
  rotate_left
  · intro w'; go_simp; with_reducible rfl
  rotate_left
  · simp only [Act.put, List.setIfInBounds_toArray, List.set_cons_zero, List.set_cons_succ, i64_w, i32_w]; rfl
  refine one_ (i := 6) (N := some 26) #[true, true, true, true, true, true, true, false] rfl rfl (by kernel_rfl) (by decide) (fun K hK => ?_)
  refine step_append_row rfl (.tmp 22) (.tmp 25) 198 rfl 203 i0 9 Tryz.underlying198 HI0.out HZ1.out g i cap (by rfl) cur HG1.out ⟨g, d, none⟩ (n - (i + 1)) (cap - (i + 1)) news (by rfl) HKL.out HN1.out HKO.out (n - 1) (by omega) (by omega) (by rw [HKL.out, HS.out]; omega) ?_
  refine hK.out _ _ trivial (fun _ => ?_)
  clear hK K hHeld
  refine norm_ (a' := ?_) ?_ ?_
  rotate_left
  · show Act.put _ (some 26) _ = _; simp only [Act.put, List.setIfInBounds_toArray, List.set_cons_zero, List.set_cons_succ, i64_w, i32_w]; rfl
  refine pure_ (i := 7) (N := some 0) (v := ?_) (a' := ?_) #[true, true, true, true, true, true, true, true] rfl rfl (by kernel_rfl) (fun _ _ _ h => h) (Or.inl ⟨by rfl, ?_⟩) ?_ ?_
  rotate_left
  · intro w'; go_simp; with_reducible rfl
  rotate_left
  · simp only [Act.put, List.setIfInBounds_toArray, List.set_cons_zero, List.set_cons_succ, i64_w, i32_w]; rfl
  refine done_ (by kernel_rfl) ?_

  obtain ⟨w2, hw2⟩ : ∃ x, x = w1.setRow g (cur.toList.take (i * 9) ++ news ++ cur.toList.drop (i * 9 + news.length)).toArray := ⟨_, rfl⟩
  rw [← hw2]
  rw [← H1.out] at hw2
  have hg2 : BK w2 g 203 cur1.toArray := by rw [hw2]; exact HG1.out.row _
  have hb2 : But g w1 w2 := by rw [hw2]; exact row_but _ _ _
  have HG2 := Lib.hid hg2
  have HB2 := Lib.hid hb2
  have HC1 : Hid (cur1.length = cap * 9) := Lib.hid (by rw [H1.out, List.length_append, List.length_append, List.length_take, List.length_drop, HKL.out, Array.length_toList, HS.out]; omega)
  clear hg2 hb2 hw2 h1 q0 hs0 hs1 hs2
  go_wp2_with (refine wpList_clear_row rfl rfl (.tmp 31) 198 rfl 203 203 _ _ Tryz.underlying198 zero_s zrow_s g ((n - 1) * 9) (cap - (n - 1)) (n - (n - 1)) (by rfl) (by omega) cur1.toArray HG2.out (by rw [List.size_toArray, HC1.out]; show (n - 1) * 9 + 9 ≤ _; omega) (by simp [Value.oneCell']) ?_)
  go_ret
  exact ⟨g, cap, rfl, rfl, HE.out _ _ cur1 H1.out rfl (HG2.out.row _), (But.of HB1.out).trans (HB2.out.trans (row_but _ _ _))⟩
end Go.Proofs.YtfploakafbnigaaGreatDoor
