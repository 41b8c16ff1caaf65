/-
  Layer 28, the walks: a job is laid down.
-/
import Derived.Test.YtfploakafbnigaaGreatDoorCPoolHas
import Derived.Test.YtfploakafbnigaaGreatDoorCPoolDel
import Derived.Test.YtfploakafbnigaaGreatDoorCPoolPut
namespace Go.Proofs.YtfploakafbnigaaGreatDoor
open Go.RowKit Val Pl YtfploakafbnigaaGreatDoorW.PrintLast
set_option linter.unusedVariables false
set_option linter.unusedSimpArgs false
set_option maxRecDepth 100000 in
set_option maxHeartbeats 4000000 in
theorem lay_i {B : Nat} {s : Pst Int} {h : PH} (j : Job Int) (w : World) (p : PMi B s h w) (hj : okj j) : Calls Tryz.prog 105 #[.pointer (some ⟨h.pb, 0, none⟩), .agg (jc (Value.int .i64) j).toArray] w (PO (Value.int .i64) 132 86 136 B ((s.lay j).2) h (.int .i64 (s.lay j).1) w) := by
  obtain ⟨A, cap0, hqv, -⟩ := own_row_i p.q
  have HQV := Lib.hid hqv
  have HJ := Lib.hid hj
  have HW := Lib.hid p
  have hle := p.le
  obtain ⟨pb, wb, qv, js⟩ := h
  obtain ⟨q, us⟩ := s
  dsimp only at HQV hle ⊢
  clear hqv hj
  have HB := Lib.hid (Below.refl w.heap.size w)
  by_cases h64 : 64 ≤ q.length
  · have e1 : (Pst.lay ⟨q, us⟩ j) = (7, ⟨q, us⟩) := by unfold Pst.lay; rw [if_pos h64]
    rw [e1]
    dsimp only
    have c0 : w.cell? ⟨pb, 0, none⟩ = some (.slice A q.length cap0) := by rw [← HQV.out]; exact p.box.c 0 rfl
    have hlt := p.box.lt
    dsimp only at hlt
    generalize q.length = n at *
    clear p e1
    unfold jc
    go_enter Tryz.func105, Tryz.ntmps105
    go_wp2
    go_ret
    exact HW.out.read rfl ((Below.refl _ _).alloc (Nat.le_refl _) _)
  · have e1 : (Pst.lay ⟨q, us⟩ j) = (0, ⟨q ++ [j], us⟩) := by unfold Pst.lay; rw [if_neg h64]
    rw [e1]
    dsimp only
    have HP : Hid (PMi B ⟨q, us⟩ ⟨pb, wb, qv, js⟩ w) := HW
    have HQL := Lib.hid (fun b (e : qv.ownBlock = some b) => p.q_lt e |>.2)
    have HONE : Hid (∀ u ∈ jc (Value.int .i64) j, u.oneCell' = true) := Lib.hid (fun u hu => jc_one (enc := (Value.int .i64)) one_i [j] u (by simpa [jcs] using hu))
    obtain ⟨i0, hi0, hz0, hz1, hz2⟩ := info_parts info_i
    have HI0 := Lib.hid hi0
    have HZ0 := Lib.hid hz0
    have HZ1 := Lib.hid hz1
    have HZ2 := Lib.hid hz2
    clear p e1 hi0 hz0 hz1 hz2
    have jl : (jc (Value.int .i64) j).toArray = #[.bool j.call, .int .i64 j.id.kind, .bool false, .string j.id.text, .slice none 0 0, .slice none 0 0, .string j.name, (Value.int .i64) j.x, .bool j.can] := rfl
    rw [jl]
    clear jl
    go_enter Tryz.func105, Tryz.ntmps105
    go_upto_region 1 with (fail)
    have hb := made_end' w (.cells #[.bool j.call, .int .i64 j.id.kind, .bool false, .string j.id.text, .slice none 0 0, .slice none 0 0, .string j.name, (Value.int .i64) j.x, .bool j.can] 132)
    have HX := Lib.hid (BK.new w 132 #[.bool j.call, .int .i64 j.id.kind, .bool false, .string j.id.text, .slice none 0 0, .slice none 0 0, .string j.name, (Value.int .i64) j.x, .bool j.can])
    replace HP := Lib.hid (HP.out.on hb)
    replace HB := Lib.hid (HB.out.trans (hb.mono HB.out.size))
    clear hb
    generalize (w.alloc (.cells #[.bool j.call, .int .i64 j.id.kind, .bool false, .string j.id.text, .slice none 0 0, .slice none 0 0, .string j.name, (Value.int .i64) j.x, .bool j.can] 132)) = w1 at *
    have c0 : w1.cell? ⟨pb, 0, none⟩ = some (.slice A q.length cap0) := by rw [← HQV.out]; exact HP.out.box.c 0 rfl
    have d0 : decide ((64 : Int) ≤ (q.length : Int)) = false := by simp; omega
    have d1 : decide (64 ≤ q.length) = false := by simp; omega
    go_upto_region 3 with (fail)
    clear c0 d0 d1
    refine start_ (n := 11) (S := (fun W => BK W pb 86 #[qv, .slice (some ⟨wb, 0, none⟩) js.length js.length] ∧ BK W w.heap.size 132 #[.bool j.call, .int .i64 j.id.kind, .bool false, .string j.id.text, .slice none 0 0, .slice none 0 0, .string j.name, (Value.int .i64) j.x, .bool j.can])) (ds := [10]) #[false, false, false, false, false, false, false, false, false, false, false] (by kernel_rfl) rfl rfl ⟨HP.out.box.on (Below.refl _ _).drew, HX.out.on (Below.refl _ _).drew⟩ (fun hHeld => ?_)
    have hbd := (Below.refl w1.heap.size w1).drew
    replace HP := Lib.hid (HP.out.on hbd)
    replace HX := Lib.hid (HX.out.on hbd)
    replace HB := Lib.hid (HB.out.trans (hbd.mono HB.out.size))
    clear hbd
    generalize w1.drew = w2 at *
    refine pure_ (i := 0) (N := some 11) (v := ?_) (a' := ?_) #[true, false, false, false, false, false, false, false, false, false, false] rfl rfl (by kernel_rfl) (fun _ _ _ h => h) (Or.inl ⟨by rfl, ?_⟩) ?_ ?_
    rotate_left
    · intro w'; go_simp; with_reducible rfl
    rotate_left
    · simp only [Act.put, List.setIfInBounds_toArray, List.set_cons_zero, List.set_cons_succ, i64_w, i32_w]; rfl
    refine pure_ (i := 1) (N := some 12) (v := ?_) (a' := ?_) #[true, true, false, false, false, false, false, false, false, false, false] rfl rfl (by kernel_rfl) (fun _ _ _ h => h) (Or.inl ⟨by rfl, ?_⟩) ?_ ?_
    rotate_left
    · intro w'; go_simp; with_reducible rfl
    rotate_left
    · simp only [Act.put, List.setIfInBounds_toArray, List.set_cons_zero, List.set_cons_succ, i64_w, i32_w]; rfl
    refine pure_ (i := 2) (N := some 13) (v := ?_) (a' := ?_) #[true, true, true, false, false, false, false, false, false, false, false] rfl rfl (by kernel_rfl) (fun _ _ _ h => h) (Or.inl ⟨by rfl, ?_⟩) ?_ ?_
    rotate_left
    · intro w'; go_simp; with_reducible rfl
    rotate_left
    · simp only [Act.put, List.setIfInBounds_toArray, List.set_cons_zero, List.set_cons_succ, i64_w, i32_w]; rfl
    refine pure_ (i := 3) (N := some 14) (v := ?_) (a' := ?_) #[true, true, true, true, false, false, false, false, false, false, false] rfl rfl (by kernel_rfl) (fun _ _ _ h => h) (Or.inl ⟨by rfl, ?_⟩) ?_ ?_
    rotate_left
    · intro w'; go_simp; with_reducible rfl
    rotate_left
    · simp only [Act.put, List.setIfInBounds_toArray, List.set_cons_zero, List.set_cons_succ, i64_w, i32_w]; rfl
    refine take_ (i := 4) (N := some 15) (v := ?_) (a' := ?_) #[true, true, true, true, true, false, false, false, false, false, false] rfl rfl (by kernel_rfl) (fun _ _ _ h => h) (Or.inl ⟨by rfl, ?_⟩) hHeld ?_ ?_
    rotate_left
    · intro w' hh; have hg := hh.1; have t0 := hg.c 0 rfl; clear hh hg; go_simp; with_reducible rfl
    rotate_left
    · simp only [Act.put, List.setIfInBounds_toArray, List.set_cons_zero, List.set_cons_succ, i64_w, i32_w]; rfl
    refine take_ (i := 5) (N := some 16) (v := ?_) (a' := ?_) #[true, true, true, true, true, true, false, false, false, false, false] rfl rfl (by kernel_rfl) (fun _ _ _ h => h) (Or.inl ⟨by rfl, ?_⟩) hHeld ?_ ?_
    rotate_left
    · intro w' hh; have hg := hh.2; have t0 := hg.c 0 rfl; have t1 := hg.c 1 rfl; have t2 := hg.c 2 rfl; have t3 := hg.c 3 rfl; have t4 := hg.c 4 rfl; have t5 := hg.c 5 rfl; have t6 := hg.c 6 rfl; have t7 := hg.c 7 rfl; have t8 := hg.c 8 rfl; clear hh hg; go_simp; with_reducible rfl
    rotate_left
    · simp only [Act.put, List.setIfInBounds_toArray, List.set_cons_zero, List.set_cons_succ, i64_w, i32_w]; rfl
    refine one_ (i := 6) (N := some 17) #[true, true, true, true, true, true, true, false, false, false, false] rfl rfl (by kernel_rfl) (by decide) (fun K hK => ?_)
    refine value_ (w1 := (w2.alloc (.cells #[.bool j.call, .int .i64 j.id.kind, .bool false, .string j.id.text, .slice none 0 0, .slice none 0 0, .string j.name, (Value.int .i64) j.x, .bool j.can] 132))) (v := .slice (some ⟨w2.heap.size, 0, none⟩) 1 1) rfl rfl ?_ ?_
    · go_simp
      all_goals first | rfl | (constructor <;> rfl)
    have hba := (Below.refl w2.heap.size w2).alloc (Nat.le_refl _) (.cells #[.bool j.call, .int .i64 j.id.kind, .bool false, .string j.id.text, .slice none 0 0, .slice none 0 0, .string j.name, (Value.int .i64) j.x, .bool j.can] 132)
    have Hq := Lib.hid (BK.new w2 132 #[.bool j.call, .int .i64 j.id.kind, .bool false, .string j.id.text, .slice none 0 0, .slice none 0 0, .string j.name, (Value.int .i64) j.x, .bool j.can])
    replace HP := Lib.hid (HP.out.on hba)
    replace HX := Lib.hid (HX.out.on hba)
    replace HB := Lib.hid (HB.out.trans (hba.mono HB.out.size))
    refine hK.out _ _ ⟨HP.out.box, HX.out⟩ (fun hHeld2 => ?_)
    clear hK K hHeld hba
    have hHeld := hHeld2
    clear hHeld2
    refine norm_ (a' := ?_) ?_ ?_
    rotate_left
    · show Act.put _ (some 17) _ = _; simp only [Act.put, List.setIfInBounds_toArray, List.set_cons_zero, List.set_cons_succ, i64_w, i32_w]; rfl
    generalize (w2.alloc (.cells #[.bool j.call, .int .i64 j.id.kind, .bool false, .string j.id.text, .slice none 0 0, .slice none 0 0, .string j.name, (Value.int .i64) j.x, .bool j.can] 132)) = w3 at *
    generalize w2.heap.size = q_ at *
    refine one_ (i := 7) (N := some 18) #[true, true, true, true, true, true, true, true, false, false, false] rfl rfl (by kernel_rfl) (by decide) (fun K hK => ?_)
    refine step_append_lies _ rfl (.tmp 15) (.tmp 17) 83 rfl B 132 i0 _ 9 120 Tryz.underlying83 HI0.out HZ0.out HZ1.out HZ2.out rfl (by omega) qv q.length (jcs (Value.int .i64) q) (by rfl) HP.out.q ⟨q_, 0, none⟩ 1 1 (jc (Value.int .i64) j) (by rfl) (by rfl) (World.news_of_block Hq.out) HONE.out (by omega) (by unfold maxLen; omega) (by omega) HP.out.B_le _ rfl ?_
    intro g cap w4 hown hgrow hat hlt
    have hf : BK w4 pb 86 #[qv, .slice (some ⟨wb, 0, none⟩) js.length js.length] := (hgrow.block _ HP.out.box.lt (fun e => HP.out.pq e.symm)).trans HP.out.box
    have hx : BK w4 w.heap.size 132 #[.bool j.call, .int .i64 j.id.kind, .bool false, .string j.id.text, .slice none 0 0, .slice none 0 0, .string j.name, (Value.int .i64) j.x, .bool j.can] := (hgrow.block _ HX.out.lt (fun e => by have := HQL.out _ e.symm; omega)).trans HX.out
    refine hK.out _ _ ⟨hf, hx⟩ (fun hHeld2 => ?_)
    clear hK K hHeld hHeld2 hx Hq HX
    refine norm_ (a' := ?_) ?_ ?_
    rotate_left
    · show Act.put _ (some 18) _ = _; simp only [Act.put, List.setIfInBounds_toArray, List.set_cons_zero, List.set_cons_succ, i64_w, i32_w]; rfl
    refine pure_ (i := 8) (N := some 19) (v := ?_) (a' := ?_) #[true, true, true, true, true, true, true, true, true, false, false] rfl rfl (by kernel_rfl) (fun _ _ _ h => h) (Or.inl ⟨by rfl, ?_⟩) ?_ ?_
    rotate_left
    · intro w'; go_simp; with_reducible rfl
    rotate_left
    · simp only [Act.put, List.setIfInBounds_toArray, List.set_cons_zero, List.set_cons_succ, i64_w, i32_w]; rfl
    refine pure_ (i := 9) (N := some 20) (v := ?_) (a' := ?_) #[true, true, true, true, true, true, true, true, true, true, false] rfl rfl (by kernel_rfl) (fun _ _ _ h => h) (Or.inl ⟨by rfl, ?_⟩) ?_ ?_
    rotate_left
    · intro w'; go_simp; with_reducible rfl
    rotate_left
    · simp only [Act.put, List.setIfInBounds_toArray, List.set_cons_zero, List.set_cons_succ, i64_w, i32_w]; rfl
    refine last_ (i := 10) (N := none) #[true, true, true, true, true, true, true, true, true, true, true] rfl rfl (by kernel_rfl) (by decide) (fun K hK => ?_)
    have c0 := hf.c 0 rfl
    have f0 := hf.fr 0
    refine skip_ (w1 := w4.setCell ⟨pb, 0, none⟩ (.slice (some ⟨g, 0, none⟩) (q.length + 1) cap)) rfl rfl ?_ (hK.out _ _ ?_)
    · go_simp
      all_goals first | rfl | (constructor <;> rfl)
    clear hK K c0 f0 hf
    refine done_ (by kernel_rfl) ?_
    go_wp2
    go_ret
    have hr := PM.requeue (q' := q ++ [j]) (v' := .slice (some ⟨g, 0, none⟩) (q.length + 1) cap) HP.out (by rw [jcs_append, List.length_append]; have e : jcs (Value.int .i64) [j] = jc (Value.int .i64) j := (by simp [jcs]); rw [e]; exact hown) (by rw [List.length_append]; show _ + 1 ≤ 64; omega) (fun a ha => by rcases List.mem_append.1 ha with h1 | h1; exact HP.out.okq a h1; rw [List.mem_singleton] at h1; subst h1; exact HJ.out)
      (fun b hb => by have hb' : g = b := by simpa [Value.ownBlock] using hb
                      subst hb'; rcases hat with h1 | h1; exact .inl h1; exact .inr (Nat.le_of_eq h1.symm)) hgrow.os hgrow.tape hgrow.output hgrow.size (fun b hb hn => hgrow.block b hb (fun e => hn e.symm))
    exact ⟨⟨pb, wb, .slice (some ⟨g, 0, none⟩) (q.length + 1) cap, js⟩, rfl, rfl, hr.1, (Mv.of HB.out).trans hr.2⟩
set_option maxRecDepth 100000 in
set_option maxHeartbeats 4000000 in
theorem lay_s {B : Nat} {s : Pst ByteArray} {h : PH} (j : Job ByteArray) (w : World) (p : PMs B s h w) (hj : okj j) : Calls Tryz.prog 162 #[.pointer (some ⟨h.pb, 0, none⟩), .agg (jc Value.string j).toArray] w (PO Value.string 203 200 204 B ((s.lay j).2) h (.int .i64 (s.lay j).1) w) := by
  obtain ⟨A, cap0, hqv, -⟩ := own_row_s p.q
  have HQV := Lib.hid hqv
  have HJ := Lib.hid hj
  have HW := Lib.hid p
  have hle := p.le
  obtain ⟨pb, wb, qv, js⟩ := h
  obtain ⟨q, us⟩ := s
  dsimp only at HQV hle ⊢
  clear hqv hj
  have HB := Lib.hid (Below.refl w.heap.size w)
  by_cases h64 : 64 ≤ q.length
  · have e1 : (Pst.lay ⟨q, us⟩ j) = (7, ⟨q, us⟩) := by unfold Pst.lay; rw [if_pos h64]
    rw [e1]
    dsimp only
    have c0 : w.cell? ⟨pb, 0, none⟩ = some (.slice A q.length cap0) := by rw [← HQV.out]; exact p.box.c 0 rfl
    have hlt := p.box.lt
    dsimp only at hlt
    generalize q.length = n at *
    clear p e1
    unfold jc
    go_enter Tryz.func162, Tryz.ntmps162
    go_wp2
    go_ret
    exact HW.out.read rfl ((Below.refl _ _).alloc (Nat.le_refl _) _)
  · have e1 : (Pst.lay ⟨q, us⟩ j) = (0, ⟨q ++ [j], us⟩) := by unfold Pst.lay; rw [if_neg h64]
    rw [e1]
    dsimp only
    have HP : Hid (PMs B ⟨q, us⟩ ⟨pb, wb, qv, js⟩ w) := HW
    have HQL := Lib.hid (fun b (e : qv.ownBlock = some b) => p.q_lt e |>.2)
    have HONE : Hid (∀ u ∈ jc Value.string j, u.oneCell' = true) := Lib.hid (fun u hu => jc_one (enc := Value.string) one_s [j] u (by simpa [jcs] using hu))
    obtain ⟨i0, hi0, hz0, hz1, hz2⟩ := info_parts info_s
    have HI0 := Lib.hid hi0
    have HZ0 := Lib.hid hz0
    have HZ1 := Lib.hid hz1
    have HZ2 := Lib.hid hz2
    clear p e1 hi0 hz0 hz1 hz2
    have jl : (jc Value.string j).toArray = #[.bool j.call, .int .i64 j.id.kind, .bool false, .string j.id.text, .slice none 0 0, .slice none 0 0, .string j.name, Value.string j.x, .bool j.can] := rfl
    rw [jl]
    clear jl
    go_enter Tryz.func162, Tryz.ntmps162
    go_upto_region 1 with (fail)
    have hb := made_end' w (.cells #[.bool j.call, .int .i64 j.id.kind, .bool false, .string j.id.text, .slice none 0 0, .slice none 0 0, .string j.name, Value.string j.x, .bool j.can] 203)
    have HX := Lib.hid (BK.new w 203 #[.bool j.call, .int .i64 j.id.kind, .bool false, .string j.id.text, .slice none 0 0, .slice none 0 0, .string j.name, Value.string j.x, .bool j.can])
    replace HP := Lib.hid (HP.out.on hb)
    replace HB := Lib.hid (HB.out.trans (hb.mono HB.out.size))
    clear hb
    generalize (w.alloc (.cells #[.bool j.call, .int .i64 j.id.kind, .bool false, .string j.id.text, .slice none 0 0, .slice none 0 0, .string j.name, Value.string j.x, .bool j.can] 203)) = w1 at *
    have c0 : w1.cell? ⟨pb, 0, none⟩ = some (.slice A q.length cap0) := by rw [← HQV.out]; exact HP.out.box.c 0 rfl
    have d0 : decide ((64 : Int) ≤ (q.length : Int)) = false := by simp; omega
    have d1 : decide (64 ≤ q.length) = false := by simp; omega
    go_upto_region 3 with (fail)
    clear c0 d0 d1
    refine start_ (n := 11) (S := (fun W => BK W pb 200 #[qv, .slice (some ⟨wb, 0, none⟩) js.length js.length] ∧ BK W w.heap.size 203 #[.bool j.call, .int .i64 j.id.kind, .bool false, .string j.id.text, .slice none 0 0, .slice none 0 0, .string j.name, Value.string j.x, .bool j.can])) (ds := [10]) #[false, false, false, false, false, false, false, false, false, false, false] (by kernel_rfl) rfl rfl ⟨HP.out.box.on (Below.refl _ _).drew, HX.out.on (Below.refl _ _).drew⟩ (fun hHeld => ?_)
    have hbd := (Below.refl w1.heap.size w1).drew
    replace HP := Lib.hid (HP.out.on hbd)
    replace HX := Lib.hid (HX.out.on hbd)
    replace HB := Lib.hid (HB.out.trans (hbd.mono HB.out.size))
    clear hbd
    generalize w1.drew = w2 at *
    refine pure_ (i := 0) (N := some 11) (v := ?_) (a' := ?_) #[true, false, false, false, false, false, false, false, false, false, false] rfl rfl (by kernel_rfl) (fun _ _ _ h => h) (Or.inl ⟨by rfl, ?_⟩) ?_ ?_
    rotate_left
    · intro w'; go_simp; with_reducible rfl
    rotate_left
    · simp only [Act.put, List.setIfInBounds_toArray, List.set_cons_zero, List.set_cons_succ, i64_w, i32_w]; rfl
    refine pure_ (i := 1) (N := some 12) (v := ?_) (a' := ?_) #[true, true, false, false, false, false, false, false, false, false, false] rfl rfl (by kernel_rfl) (fun _ _ _ h => h) (Or.inl ⟨by rfl, ?_⟩) ?_ ?_
    rotate_left
    · intro w'; go_simp; with_reducible rfl
    rotate_left
    · simp only [Act.put, List.setIfInBounds_toArray, List.set_cons_zero, List.set_cons_succ, i64_w, i32_w]; rfl
    refine pure_ (i := 2) (N := some 13) (v := ?_) (a' := ?_) #[true, true, true, false, false, false, false, false, false, false, false] rfl rfl (by kernel_rfl) (fun _ _ _ h => h) (Or.inl ⟨by rfl, ?_⟩) ?_ ?_
    rotate_left
    · intro w'; go_simp; with_reducible rfl
    rotate_left
    · simp only [Act.put, List.setIfInBounds_toArray, List.set_cons_zero, List.set_cons_succ, i64_w, i32_w]; rfl
    refine pure_ (i := 3) (N := some 14) (v := ?_) (a' := ?_) #[true, true, true, true, false, false, false, false, false, false, false] rfl rfl (by kernel_rfl) (fun _ _ _ h => h) (Or.inl ⟨by rfl, ?_⟩) ?_ ?_
    rotate_left
    · intro w'; go_simp; with_reducible rfl
    rotate_left
    · simp only [Act.put, List.setIfInBounds_toArray, List.set_cons_zero, List.set_cons_succ, i64_w, i32_w]; rfl
    refine take_ (i := 4) (N := some 15) (v := ?_) (a' := ?_) #[true, true, true, true, true, false, false, false, false, false, false] rfl rfl (by kernel_rfl) (fun _ _ _ h => h) (Or.inl ⟨by rfl, ?_⟩) hHeld ?_ ?_
    rotate_left
    · intro w' hh; have hg := hh.1; have t0 := hg.c 0 rfl; clear hh hg; go_simp; with_reducible rfl
    rotate_left
    · simp only [Act.put, List.setIfInBounds_toArray, List.set_cons_zero, List.set_cons_succ, i64_w, i32_w]; rfl
    refine take_ (i := 5) (N := some 16) (v := ?_) (a' := ?_) #[true, true, true, true, true, true, false, false, false, false, false] rfl rfl (by kernel_rfl) (fun _ _ _ h => h) (Or.inl ⟨by rfl, ?_⟩) hHeld ?_ ?_
    rotate_left
    · intro w' hh; have hg := hh.2; have t0 := hg.c 0 rfl; have t1 := hg.c 1 rfl; have t2 := hg.c 2 rfl; have t3 := hg.c 3 rfl; have t4 := hg.c 4 rfl; have t5 := hg.c 5 rfl; have t6 := hg.c 6 rfl; have t7 := hg.c 7 rfl; have t8 := hg.c 8 rfl; clear hh hg; go_simp; with_reducible rfl
    rotate_left
    · simp only [Act.put, List.setIfInBounds_toArray, List.set_cons_zero, List.set_cons_succ, i64_w, i32_w]; rfl
    refine one_ (i := 6) (N := some 17) #[true, true, true, true, true, true, true, false, false, false, false] rfl rfl (by kernel_rfl) (by decide) (fun K hK => ?_)
    refine value_ (w1 := (w2.alloc (.cells #[.bool j.call, .int .i64 j.id.kind, .bool false, .string j.id.text, .slice none 0 0, .slice none 0 0, .string j.name, Value.string j.x, .bool j.can] 203))) (v := .slice (some ⟨w2.heap.size, 0, none⟩) 1 1) rfl rfl ?_ ?_
    · go_simp
      all_goals first | rfl | (constructor <;> rfl)
    have hba := (Below.refl w2.heap.size w2).alloc (Nat.le_refl _) (.cells #[.bool j.call, .int .i64 j.id.kind, .bool false, .string j.id.text, .slice none 0 0, .slice none 0 0, .string j.name, Value.string j.x, .bool j.can] 203)
    have Hq := Lib.hid (BK.new w2 203 #[.bool j.call, .int .i64 j.id.kind, .bool false, .string j.id.text, .slice none 0 0, .slice none 0 0, .string j.name, Value.string j.x, .bool j.can])
    replace HP := Lib.hid (HP.out.on hba)
    replace HX := Lib.hid (HX.out.on hba)
    replace HB := Lib.hid (HB.out.trans (hba.mono HB.out.size))
    refine hK.out _ _ ⟨HP.out.box, HX.out⟩ (fun hHeld2 => ?_)
    clear hK K hHeld hba
    have hHeld := hHeld2
    clear hHeld2
    refine norm_ (a' := ?_) ?_ ?_
    rotate_left
    · show Act.put _ (some 17) _ = _; simp only [Act.put, List.setIfInBounds_toArray, List.set_cons_zero, List.set_cons_succ, i64_w, i32_w]; rfl
    generalize (w2.alloc (.cells #[.bool j.call, .int .i64 j.id.kind, .bool false, .string j.id.text, .slice none 0 0, .slice none 0 0, .string j.name, Value.string j.x, .bool j.can] 203)) = w3 at *
    generalize w2.heap.size = q_ at *
    refine one_ (i := 7) (N := some 18) #[true, true, true, true, true, true, true, true, false, false, false] rfl rfl (by kernel_rfl) (by decide) (fun K hK => ?_)
    refine step_append_lies _ rfl (.tmp 15) (.tmp 17) 198 rfl B 203 i0 _ 9 128 Tryz.underlying198 HI0.out HZ0.out HZ1.out HZ2.out rfl (by omega) qv q.length (jcs Value.string q) (by rfl) HP.out.q ⟨q_, 0, none⟩ 1 1 (jc Value.string j) (by rfl) (by rfl) (World.news_of_block Hq.out) HONE.out (by omega) (by unfold maxLen; omega) (by omega) HP.out.B_le _ rfl ?_
    intro g cap w4 hown hgrow hat hlt
    have hf : BK w4 pb 200 #[qv, .slice (some ⟨wb, 0, none⟩) js.length js.length] := (hgrow.block _ HP.out.box.lt (fun e => HP.out.pq e.symm)).trans HP.out.box
    have hx : BK w4 w.heap.size 203 #[.bool j.call, .int .i64 j.id.kind, .bool false, .string j.id.text, .slice none 0 0, .slice none 0 0, .string j.name, Value.string j.x, .bool j.can] := (hgrow.block _ HX.out.lt (fun e => by have := HQL.out _ e.symm; omega)).trans HX.out
    refine hK.out _ _ ⟨hf, hx⟩ (fun hHeld2 => ?_)
    clear hK K hHeld hHeld2 hx Hq HX
    refine norm_ (a' := ?_) ?_ ?_
    rotate_left
    · show Act.put _ (some 18) _ = _; simp only [Act.put, List.setIfInBounds_toArray, List.set_cons_zero, List.set_cons_succ, i64_w, i32_w]; rfl
    refine pure_ (i := 8) (N := some 19) (v := ?_) (a' := ?_) #[true, true, true, true, true, true, true, true, true, false, false] rfl rfl (by kernel_rfl) (fun _ _ _ h => h) (Or.inl ⟨by rfl, ?_⟩) ?_ ?_
    rotate_left
    · intro w'; go_simp; with_reducible rfl
    rotate_left
    · simp only [Act.put, List.setIfInBounds_toArray, List.set_cons_zero, List.set_cons_succ, i64_w, i32_w]; rfl
    refine pure_ (i := 9) (N := some 20) (v := ?_) (a' := ?_) #[true, true, true, true, true, true, true, true, true, true, false] rfl rfl (by kernel_rfl) (fun _ _ _ h => h) (Or.inl ⟨by rfl, ?_⟩) ?_ ?_
    rotate_left
    · intro w'; go_simp; with_reducible rfl
    rotate_left
    · simp only [Act.put, List.setIfInBounds_toArray, List.set_cons_zero, List.set_cons_succ, i64_w, i32_w]; rfl
    refine last_ (i := 10) (N := none) #[true, true, true, true, true, true, true, true, true, true, true] rfl rfl (by kernel_rfl) (by decide) (fun K hK => ?_)
    have c0 := hf.c 0 rfl
    have f0 := hf.fr 0
    refine skip_ (w1 := w4.setCell ⟨pb, 0, none⟩ (.slice (some ⟨g, 0, none⟩) (q.length + 1) cap)) rfl rfl ?_ (hK.out _ _ ?_)
    · go_simp
      all_goals first | rfl | (constructor <;> rfl)
    clear hK K c0 f0 hf
    refine done_ (by kernel_rfl) ?_
    go_wp2
    go_ret
    have hr := PM.requeue (q' := q ++ [j]) (v' := .slice (some ⟨g, 0, none⟩) (q.length + 1) cap) HP.out (by rw [jcs_append, List.length_append]; have e : jcs Value.string [j] = jc Value.string j := (by simp [jcs]); rw [e]; exact hown) (by rw [List.length_append]; show _ + 1 ≤ 64; omega) (fun a ha => by rcases List.mem_append.1 ha with h1 | h1; exact HP.out.okq a h1; rw [List.mem_singleton] at h1; subst h1; exact HJ.out)
      (fun b hb => by have hb' : g = b := by simpa [Value.ownBlock] using hb
                      subst hb'; rcases hat with h1 | h1; exact .inl h1; exact .inr (Nat.le_of_eq h1.symm)) hgrow.os hgrow.tape hgrow.output hgrow.size (fun b hb hn => hgrow.block b hb (fun e => hn e.symm))
    exact ⟨⟨pb, wb, .slice (some ⟨g, 0, none⟩) (q.length + 1) cap, js⟩, rfl, rfl, hr.1, (Mv.of HB.out).trans hr.2⟩
end Go.Proofs.YtfploakafbnigaaGreatDoor
