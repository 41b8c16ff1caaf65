/-
  Layer 28, the walks: Take.
-/
import Derived.Test.YtfploakafbnigaaGreatDoorCPoolLay
namespace Go.Proofs.YtfploakafbnigaaGreatDoor
open Go.RowKit Val Pl YtfploakafbnigaaGreatDoorW.PrintLast
set_option linter.unusedVariables false
set_option linter.unusedSimpArgs false
theorem jc_one1_i (j : Job Int) : ∀ u ∈ [.bool j.call, .int .i64 j.id.kind, .bool false, .string j.id.text, .slice none 0 0, .slice none 0 0, .string j.name, (Value.int .i64) j.x, .bool j.can], u.oneCell' = true := fun u hu => jc_one (enc := (Value.int .i64)) one_i [j] u (by simpa [jcs, jc] using hu)
set_option maxRecDepth 100000 in
set_option maxHeartbeats 4000000 in
theorem Take_i {B : Nat} {s : Pst Int} {h : PH} (k : Nat) (m : Int) (w : World) (p : PMi B s h w) (hm : m = (k : Int)) (hk : k < s.us.length) : Calls Tryz.prog 44 #[.pointer (some ⟨h.pb, 0, none⟩), .int .i64 m] w (PO (Value.int .i64) 132 86 136 B ((s.take k).2) h (.tuple #[.bool (s.take k).1, .int .i64 0]) w) := by
  subst hm
  have HP := Lib.hid p
  have hkj : k < h.js.length := by rw [← p.len]; exact hk
  have h4 := p.many.2
  obtain ⟨u, hu⟩ : ∃ u, s.us[k]? = some u := ⟨_, List.getElem?_eq_getElem hk⟩
  obtain ⟨o, ho⟩ : ∃ o, h.js[k]? = some o := ⟨_, List.getElem?_eq_getElem hkj⟩
  have hU := p.us k
  rw [hu, ho] at hU
  have c1 := p.box.c 1 rfl
  have hx : w.cell? ⟨h.wb, k, none⟩ = some (pv o) := p.ws.c k (by simp [ho])
  have HWK := Lib.hid (show Calls Tryz.prog 108 #[.pointer (some ⟨h.pb, 0, none⟩), .int .i64 (k : Int)] w fun e w' => e = .returned (.int .i64 0) ∧ w = w' by
    have := worker_i (k : Int) w p
    rw [if_pos ⟨by omega, by omega⟩] at this
    exact this)
  have i1 : (0 : Int) ≤ (k : Int) := by omega
  have i2 : (k : Int) < (h.js.length : Int) := by omega
  have HU := Lib.hid hu
  have HK := Lib.hid ho
  clear p hk
  cases u with
  | some j =>
    obtain ⟨b, rfl⟩ : ∃ b, o = some b := by cases o with
      | none => exact hU.elim
      | some b => exact ⟨b, rfl⟩
    have e1 : s.take k = (false, s) := by unfold Pst.take; rw [hu]
    rw [e1]
    dsimp only
    have hx' : w.cell? ⟨h.wb, k, none⟩ = some (.pointer (some ⟨b, 0, none⟩)) := hx
    clear e1 hx hU hu ho hkj
    generalize h.js.length = n at *
    go_enter Tryz.func44, Tryz.ntmps44
    go_wp2_with fail
    refine HWK.out.mono ?_
    rintro e w2 ⟨rfl, rfl⟩
    go_wp2
    go_ret2
    exact HP.out.read rfl (Below.refl _ _)
  | none =>
    obtain rfl : o = none := by cases o with
      | none => rfl
      | some b => exact hU.elim
    have hx' : w.cell? ⟨h.wb, k, none⟩ = some (.pointer none) := hx
    obtain ⟨A, cap, hqv, hA⟩ := own_row_i HP.out.q
    have c0 : w.cell? ⟨h.pb, 0, none⟩ = some (.slice A s.q.length cap) := by rw [← hqv]; exact HP.out.box.c 0 rfl
    cases hq : s.q with
    | nil =>
      have e1 : s.take k = (false, s) := by unfold Pst.take; rw [hu, hq]
      rw [e1]
      dsimp only
      rw [hq] at c0
      dsimp only [List.length_nil] at c0
      clear e1 hx hU hu ho hkj hA hqv hq
      generalize h.js.length = n at *
      go_enter Tryz.func44, Tryz.ntmps44
      go_wp2_with fail
      refine HWK.out.mono ?_
      rintro e w2 ⟨rfl, rfl⟩
      go_wp2
      go_ret2
      exact HP.out.read rfl (Below.refl _ _)
    | cons j r =>
      have e1 : s.take k = (true, ⟨r, s.us.set k (some j)⟩) := by unfold Pst.take; rw [hu, hq]
      rw [e1]
      dsimp only
      obtain ⟨g0, rfl, hg0, -, hcs⟩ := hA (by rw [hq]; simp)
      have hcj : ∀ k u, (jc (Value.int .i64) j)[k]? = some u → w.cell? ⟨g0, k, none⟩ = some u := fun k u hu => by
        have := hcs 0 j (by rw [hq]; rfl) k u hu
        simpa using this
      have x0 := hcj 0 _ rfl
      have x1 := hcj 1 _ rfl
      have x2 := hcj 2 _ rfl
      have x3 := hcj 3 _ rfl
      have x4 := hcj 4 _ rfl
      have x5 := hcj 5 _ rfl
      have x6 := hcj 6 _ rfl
      have x7 := hcj 7 _ rfl
      have x8 := hcj 8 _ rfl
      have HSL := Lib.hid (fun b (hb : h.S b) => HP.out.S_lt hb)
      have HOJ : Hid (okj j) := Lib.hid (HP.out.okq j (by rw [hq]; exact List.mem_cons_self ..))
      have HLE : Hid ((j :: r).length ≤ 64) := Lib.hid (by rw [← hq]; exact HP.out.le)
      have HBL : Hid (B ≤ w.heap.size) := Lib.hid HP.out.B_le
      obtain ⟨N, hN⟩ : ∃ N, s.q.length = N := ⟨_, rfl⟩
      have hN0 : 0 < N := by rw [← hN, hq]; simp
      rw [hN] at c0
      have d0 : ((N : Int) == 0) = false := by rw [beq_eq_false_iff_ne]; omega
      have i5 : (0 : Int) < (N : Int) := by omega
      obtain ⟨sq, us⟩ := s
      obtain ⟨pb, wb, qv, js⟩ := h
      dsimp only at hq hN c0 c1 hx' HP HWK HU HK i2 h4 HSL ⊢
      subst hq
      have HQV0 := Lib.hid hqv
      have HKJ := Lib.hid hkj
      clear e1 hx hU hu ho hkj hA hqv hN hcs hcj
      go_enter Tryz.func44, Tryz.ntmps44
      go_wp2_with fail
      refine HWK.out.mono ?_
      rintro e w2 ⟨rfl, rfl⟩
      obtain ⟨b, hb0⟩ : ∃ b, b = w.heap.size := ⟨_, rfl⟩
      have HB0 := Lib.hid hb0
      clear hb0
      go_upto_region 7 with (
        refine store_fld rfl rfl 132 (.tmp 7) (.tmp 35) rfl w.heap.size 0 (.agg #[.bool j.call, .int .i64 j.id.kind, .bool false, .string j.id.text, .slice none 0 0, .slice none 0 0, .string j.name, (Value.int .i64) j.x, .bool j.can]) [.bool j.call, .int .i64 j.id.kind, .bool false, .string j.id.text, .slice none 0 0, .slice none 0 0, .string j.name, (Value.int .i64) j.x, .bool j.can] rfl rfl rfl #[.bool j.call, .int .i64 j.id.kind, .bool false, .string j.id.text, .slice none 0 0, .slice none 0 0, .string j.name, (Value.int .i64) j.x, .bool j.can] (BK.new w _ _) (by kernel_rfl) (Nat.le_of_ble_eq_true rfl) (jc_one1_i j) rfl ?_
        intro w2 hS hbt hsz)
      have hbw : Below w.heap.size w w2 := hbt.below (made_end' w _) (Nat.le_refl _) (by simp)
      replace HP := Lib.hid (HP.out.on hbw)
      have HB := Lib.hid hbw
      have HX := Lib.hid hS
      rw [← HB0.out] at HX ⊢
      clear hbw hS hbt hsz x0 x1 x2 x3 x4 x5 x6 x7 x8 c0 c1 hx' d0 i5 HWK
      have HNE : Hid (pb ≠ wb) := Lib.hid HP.out.ne
      refine start_ (n := 16) (S := (fun W => BK W pb 86 #[qv, .slice (some ⟨wb, 0, none⟩) js.length js.length])) (ds := [12, 15]) #[false, false, false, false, false, false, false, false, false, false, false, false, false, false, false, false] (by kernel_rfl) rfl rfl (HP.out.box.on (Below.refl _ _).drew) (fun hHeld => ?_)
      have hbd := (Below.refl w2.heap.size w2).drew
      replace HP := Lib.hid (HP.out.on hbd)
      replace HX := Lib.hid (HX.out.on hbd)
      replace HB := Lib.hid (HB.out.trans (hbd.mono HB.out.size))
      clear hbd
      generalize w2.drew = w3 at *
      refine pure_ (i := 0) (N := some 36) (v := ?_) (a' := ?_) #[true, false, false, false, false, false, false, false, false, false, false, false, false, false, false, false] rfl rfl (by kernel_rfl) (fun _ _ _ h => h) (Or.inl ⟨by rfl, ?_⟩) ?_ ?_
      rotate_left
      · intro w'; go_simp; with_reducible rfl
      rotate_left
      · simp only [Act.put, List.setIfInBounds_toArray, List.set_cons_zero, List.set_cons_succ, i64_w, i32_w]; rfl
      refine pure_ (i := 1) (N := some 37) (v := ?_) (a' := ?_) #[true, true, false, false, false, false, false, false, false, false, false, false, false, false, false, false] rfl rfl (by kernel_rfl) (fun _ _ _ h => h) (Or.inl ⟨by rfl, ?_⟩) ?_ ?_
      rotate_left
      · intro w'; go_simp; with_reducible rfl
      rotate_left
      · simp only [Act.put, List.setIfInBounds_toArray, List.set_cons_zero, List.set_cons_succ, i64_w, i32_w]; rfl
      refine pure_ (i := 2) (N := some 38) (v := ?_) (a' := ?_) #[true, true, true, false, false, false, false, false, false, false, false, false, false, false, false, false] rfl rfl (by kernel_rfl) (fun _ _ _ h => h) (Or.inl ⟨by rfl, ?_⟩) ?_ ?_
      rotate_left
      · intro w'; go_simp; with_reducible rfl
      rotate_left
      · simp only [Act.put, List.setIfInBounds_toArray, List.set_cons_zero, List.set_cons_succ, i64_w, i32_w]; rfl
      refine pure_ (i := 4) (N := some 40) (v := ?_) (a' := ?_) #[true, true, true, false, true, false, false, false, false, false, false, false, false, false, false, false] rfl rfl (by kernel_rfl) (fun _ _ _ h => h) (Or.inl ⟨by rfl, ?_⟩) ?_ ?_
      rotate_left
      · intro w'; go_simp; with_reducible rfl
      rotate_left
      · simp only [Act.put, List.setIfInBounds_toArray, List.set_cons_zero, List.set_cons_succ, i64_w, i32_w]; rfl
      refine pure_ (i := 5) (N := some 41) (v := ?_) (a' := ?_) #[true, true, true, false, true, true, false, false, false, false, false, false, false, false, false, false] rfl rfl (by kernel_rfl) (fun _ _ _ h => h) (Or.inl ⟨by rfl, ?_⟩) ?_ ?_
      rotate_left
      · intro w'; go_simp; with_reducible rfl
      rotate_left
      · simp only [Act.put, List.setIfInBounds_toArray, List.set_cons_zero, List.set_cons_succ, i64_w, i32_w]; rfl
      refine pure_ (i := 6) (N := some 42) (v := ?_) (a' := ?_) #[true, true, true, false, true, true, true, false, false, false, false, false, false, false, false, false] rfl rfl (by kernel_rfl) (fun _ _ _ h => h) (Or.inl ⟨by rfl, ?_⟩) ?_ ?_
      rotate_left
      · intro w'; go_simp; with_reducible rfl
      rotate_left
      · simp only [Act.put, List.setIfInBounds_toArray, List.set_cons_zero, List.set_cons_succ, i64_w, i32_w]; rfl
      refine pure_ (i := 7) (N := some 43) (v := ?_) (a' := ?_) #[true, true, true, false, true, true, true, true, false, false, false, false, false, false, false, false] rfl rfl (by kernel_rfl) (fun _ _ _ h => h) (Or.inl ⟨by rfl, ?_⟩) ?_ ?_
      rotate_left
      · intro w'; go_simp; with_reducible rfl
      rotate_left
      · simp only [Act.put, List.setIfInBounds_toArray, List.set_cons_zero, List.set_cons_succ, i64_w, i32_w]; rfl
      refine pure_ (i := 8) (N := some 44) (v := ?_) (a' := ?_) #[true, true, true, false, true, true, true, true, true, false, false, false, false, false, false, false] rfl rfl (by kernel_rfl) (fun _ _ _ h => h) (Or.inl ⟨by rfl, ?_⟩) ?_ ?_
      rotate_left
      · intro w'; go_simp; with_reducible rfl
      rotate_left
      · simp only [Act.put, List.setIfInBounds_toArray, List.set_cons_zero, List.set_cons_succ, i64_w, i32_w]; rfl
      refine take_ (i := 3) (N := some 39) (v := ?_) (a' := ?_) #[true, true, true, true, true, true, true, true, true, false, false, false, false, false, false, false] rfl rfl (by kernel_rfl) (fun _ _ _ h => h) (Or.inl ⟨by rfl, ?_⟩) hHeld ?_ ?_
      rotate_left
      · intro w' hh; have t0 := BK.c hh 0 rfl; have t1 := BK.c hh 1 rfl; clear hh; go_simp; with_reducible rfl
      rotate_left
      · simp only [Act.put, List.setIfInBounds_toArray, List.set_cons_zero, List.set_cons_succ, i64_w, i32_w]; rfl
      refine take_ (i := 9) (N := some 45) (v := ?_) (a' := ?_) #[true, true, true, true, true, true, true, true, true, true, false, false, false, false, false, false] rfl rfl (by kernel_rfl) (fun _ _ _ h => h) (Or.inl ⟨by rfl, ?_⟩) hHeld ?_ ?_
      rotate_left
      · intro w' hh; have t0 := BK.c hh 0 rfl; have t1 := BK.c hh 1 rfl; clear hh; go_simp; with_reducible rfl
      rotate_left
      · simp only [Act.put, List.setIfInBounds_toArray, List.set_cons_zero, List.set_cons_succ, i64_w, i32_w]; rfl
      refine one_ (i := 10) (N := some 46) #[true, true, true, true, true, true, true, true, true, true, true, false, false, false, false, false] rfl rfl (by kernel_rfl) (by decide) (fun K hK => ?_)
      refine goes_ Tryz.func109 (by kernel_rfl) rfl #[qv, .int .i64 0, .int .i64 1] (by rfl) rfl rfl (by (try simp only [List.map_toArray, List.map_cons, List.map_nil]); first | done | rfl) ?_
      refine (del_i (j :: r) B 0 0 1 qv w3 HP.out.q HLE.out (by simp) rfl rfl).mono ?_
      rintro e w4 ⟨g, cap, hqv, rfl, hown, hbt⟩
      have HBT := Lib.hid hbt
      have HOWN := Lib.hid hown
      have HQV := Lib.hid hqv
      clear hbt hown hqv
      refine ⟨_, rfl, ?_⟩
      have hgq : qv.ownBlock = some g := by rw [HQV.out]; rfl
      have hf : BK w4 pb 86 #[qv, .slice (some ⟨wb, 0, none⟩) js.length js.length] := HP.out.box.but HBT.out (fun e => HP.out.pq (hgq.trans (congrArg some e.symm)))
      have hw : BK w4 wb 136 (js.map pv).toArray := HP.out.ws.but HBT.out (fun e => HP.out.wq (hgq.trans (congrArg some e.symm)))
      have HF := Lib.hid hf
      have HW2 := Lib.hid hw
      have HGQ := Lib.hid hgq
      clear hf hw hgq
      refine hK.out _ _ HF.out (fun hHeld2 => ?_)
      clear hK K hHeld hHeld2
      refine norm_ (a' := ?_) ?_ ?_
      rotate_left
      · show Act.put _ (some 46) _ = _; simp only [Act.put, List.setIfInBounds_toArray, List.set_cons_zero, List.set_cons_succ, i64_w, i32_w]; rfl
      refine pure_ (i := 11) (N := some 47) (v := ?_) (a' := ?_) #[true, true, true, true, true, true, true, true, true, true, true, true, false, false, false, false] rfl rfl (by kernel_rfl) (fun _ _ _ h => h) (Or.inl ⟨by rfl, ?_⟩) ?_ ?_
      rotate_left
      · intro w'; go_simp; with_reducible rfl
      rotate_left
      · simp only [Act.put, List.setIfInBounds_toArray, List.set_cons_zero, List.set_cons_succ, i64_w, i32_w]; rfl
      refine last_ (i := 12) (N := none) #[true, true, true, true, true, true, true, true, true, true, true, true, true, false, false, false] rfl rfl (by kernel_rfl) (by decide) (fun K hK => ?_)
      have c0 := HW2.out.c k (by simp [HK.out]; rfl)
      have f0 := HW2.out.fr k
      refine skip_ (w1 := w4.setCell ⟨wb, k, none⟩ (.pointer (some ⟨b, 0, none⟩))) rfl rfl ?_ (hK.out _ _ ?_)
      · go_simp
        all_goals first | rfl | (constructor <;> rfl)
      clear hK K c0 f0
      refine pure_ (i := 13) (N := some 48) (v := ?_) (a' := ?_) #[true, true, true, true, true, true, true, true, true, true, true, true, true, true, false, false] rfl rfl (by kernel_rfl) (fun _ _ _ h => h) (Or.inl ⟨by rfl, ?_⟩) ?_ ?_
      rotate_left
      · intro w'; go_simp; with_reducible rfl
      rotate_left
      · simp only [Act.put, List.setIfInBounds_toArray, List.set_cons_zero, List.set_cons_succ, i64_w, i32_w]; rfl
      refine pure_ (i := 14) (N := some 49) (v := ?_) (a' := ?_) #[true, true, true, true, true, true, true, true, true, true, true, true, true, true, true, false] rfl rfl (by kernel_rfl) (fun _ _ _ h => h) (Or.inl ⟨by rfl, ?_⟩) ?_ ?_
      rotate_left
      · intro w'; go_simp; with_reducible rfl
      rotate_left
      · simp only [Act.put, List.setIfInBounds_toArray, List.set_cons_zero, List.set_cons_succ, i64_w, i32_w]; rfl
      refine last_ (i := 15) (N := none) #[true, true, true, true, true, true, true, true, true, true, true, true, true, true, true, true] rfl rfl (by kernel_rfl) (by decide) (fun K hK => ?_)
      have HF3 : Hid (BK (w4.setCell ⟨wb, k, none⟩ (.pointer (some ⟨b, 0, none⟩))) pb 86 #[qv, .slice (some ⟨wb, 0, none⟩) js.length js.length]) := Lib.hid (HF.out.far _ HNE.out)
      obtain ⟨w5, hw5⟩ : ∃ x, x = w4.setCell ⟨wb, k, none⟩ (.pointer (some ⟨b, 0, none⟩)) := ⟨_, rfl⟩
      rw [← hw5] at HF3 ⊢
      have HW5 := Lib.hid hw5
      clear hw5
      have c0 := HF3.out.c 0 rfl
      have f0 := HF3.out.fr 0
      refine skip_ (w1 := w5.setCell ⟨pb, 0, none⟩ (.slice (some ⟨g, 0, none⟩) ((j :: r).length - 1) cap)) rfl rfl ?_ (hK.out _ _ ?_)
      · go_simp
        all_goals first | rfl | (constructor <;> rfl)
      clear hK K c0 f0
      refine done_ (by kernel_rfl) ?_

      go_wp2
      go_ret2
      obtain ⟨hr1, hr2⟩ := PM.requeue (q' := r) (v' := .slice (some ⟨g, 0, none⟩) ((j :: r).length - 1) cap) (w1 := w4) HP.out (by have := HOWN.out; simpa using this) (by have := HLE.out; simp at this; omega) (fun a ha => HP.out.okq a (List.mem_cons_of_mem _ ha))
        (fun b' hb' => .inl (by have e : g = b' := by simpa [Value.ownBlock] using hb'
                                rw [← e]; exact HGQ.out)) HBT.out.os HBT.out.tape HBT.out.output HBT.out.size (fun b' hb' hn => HBT.out.block b' hb' (fun e => hn (by rw [e]; exact HGQ.out)))
      have hnS : ∀ b', (PH.mk pb wb qv js).S b' → b' < b := fun b' hb' => by rw [HB0.out]; exact HSL.out b' hb'
      have hbg : b ≠ g := fun e => by have := hnS g (.inr (.inr (.inl HGQ.out))); omega
      have hbp : b ≠ pb := fun e => by have := hnS pb (.inl rfl); omega
      have hX6 : BK (w4.setCell ⟨pb, 0, none⟩ (.slice (some ⟨g, 0, none⟩) ((j :: r).length - 1) cap)) b 132 (jc (Value.int .i64) j).toArray := (BK.but HX.out HBT.out hbg).far _ hbp
      obtain ⟨hp1, hp2, hp3⟩ := hr1.worker (k := k) HKJ.out (some b) (some j) hX6 (fun j' e => by injection e with e; rw [← e]; exact HOJ.out)
        (fun g' e => by
          injection e with e
          subst e
          refine ⟨fun hs => ?_, by rw [HB0.out]; exact HBL.out⟩
          rcases hr2.new b hs with h1 | h1
          · exact Nat.lt_irrefl _ (hnS b h1)
          · have := HX.out.lt; omega)
      have hc : (w5.setCell ⟨pb, 0, none⟩ (.slice (some ⟨g, 0, none⟩) ((j :: r).length - 1) cap)) = (w4.setCell ⟨pb, 0, none⟩ (.slice (some ⟨g, 0, none⟩) ((j :: r).length - 1) cap)).setCell ⟨wb, k, none⟩ (pv (some b)) := by
        rw [HW5.out]; exact set_comm w4 _ _ (fun e => HNE.out e.symm)
      rw [hc]
      exact ⟨⟨pb, wb, .slice (some ⟨g, 0, none⟩) ((j :: r).length - 1) cap, js.set k (some b)⟩, rfl, rfl, hp1, ((Mv.of HB.out).trans hr2).store _ (.inr (.inl rfl)) (fun b' hb' => by
        rcases hp3 b' hb' with h1 | h1
        · exact .inl h1
        · injection h1 with h1; right; rw [← h1, HB0.out]; exact Nat.le_refl _)⟩
theorem jc_one1_s (j : Job ByteArray) : ∀ u ∈ [.bool j.call, .int .i64 j.id.kind, .bool false, .string j.id.text, .slice none 0 0, .slice none 0 0, .string j.name, Value.string j.x, .bool j.can], u.oneCell' = true := fun u hu => jc_one (enc := Value.string) one_s [j] u (by simpa [jcs, jc] using hu)
set_option maxRecDepth 100000 in
set_option maxHeartbeats 4000000 in
theorem Take_s {B : Nat} {s : Pst ByteArray} {h : PH} (k : Nat) (m : Int) (w : World) (p : PMs B s h w) (hm : m = (k : Int)) (hk : k < s.us.length) : Calls Tryz.prog 116 #[.pointer (some ⟨h.pb, 0, none⟩), .int .i64 m] w (PO Value.string 203 200 204 B ((s.take k).2) h (.tuple #[.bool (s.take k).1, .int .i64 0]) w) := by
  subst hm
  have HP := Lib.hid p
  have hkj : k < h.js.length := by rw [← p.len]; exact hk
  have h4 := p.many.2
  obtain ⟨u, hu⟩ : ∃ u, s.us[k]? = some u := ⟨_, List.getElem?_eq_getElem hk⟩
  obtain ⟨o, ho⟩ : ∃ o, h.js[k]? = some o := ⟨_, List.getElem?_eq_getElem hkj⟩
  have hU := p.us k
  rw [hu, ho] at hU
  have c1 := p.box.c 1 rfl
  have hx : w.cell? ⟨h.wb, k, none⟩ = some (pv o) := p.ws.c k (by simp [ho])
  have HWK := Lib.hid (show Calls Tryz.prog 164 #[.pointer (some ⟨h.pb, 0, none⟩), .int .i64 (k : Int)] w fun e w' => e = .returned (.int .i64 0) ∧ w = w' by
    have := worker_s (k : Int) w p
    rw [if_pos ⟨by omega, by omega⟩] at this
    exact this)
  have i1 : (0 : Int) ≤ (k : Int) := by omega
  have i2 : (k : Int) < (h.js.length : Int) := by omega
  have HU := Lib.hid hu
  have HK := Lib.hid ho
  clear p hk
  cases u with
  | some j =>
    obtain ⟨b, rfl⟩ : ∃ b, o = some b := by cases o with
      | none => exact hU.elim
      | some b => exact ⟨b, rfl⟩
    have e1 : s.take k = (false, s) := by unfold Pst.take; rw [hu]
    rw [e1]
    dsimp only
    have hx' : w.cell? ⟨h.wb, k, none⟩ = some (.pointer (some ⟨b, 0, none⟩)) := hx
    clear e1 hx hU hu ho hkj
    generalize h.js.length = n at *
    go_enter Tryz.func116, Tryz.ntmps116
    go_wp2_with fail
    refine HWK.out.mono ?_
    rintro e w2 ⟨rfl, rfl⟩
    go_wp2
    go_ret2
    exact HP.out.read rfl (Below.refl _ _)
  | none =>
    obtain rfl : o = none := by cases o with
      | none => rfl
      | some b => exact hU.elim
    have hx' : w.cell? ⟨h.wb, k, none⟩ = some (.pointer none) := hx
    obtain ⟨A, cap, hqv, hA⟩ := own_row_s HP.out.q
    have c0 : w.cell? ⟨h.pb, 0, none⟩ = some (.slice A s.q.length cap) := by rw [← hqv]; exact HP.out.box.c 0 rfl
    cases hq : s.q with
    | nil =>
      have e1 : s.take k = (false, s) := by unfold Pst.take; rw [hu, hq]
      rw [e1]
      dsimp only
      rw [hq] at c0
      dsimp only [List.length_nil] at c0
      clear e1 hx hU hu ho hkj hA hqv hq
      generalize h.js.length = n at *
      go_enter Tryz.func116, Tryz.ntmps116
      go_wp2_with fail
      refine HWK.out.mono ?_
      rintro e w2 ⟨rfl, rfl⟩
      go_wp2
      go_ret2
      exact HP.out.read rfl (Below.refl _ _)
    | cons j r =>
      have e1 : s.take k = (true, ⟨r, s.us.set k (some j)⟩) := by unfold Pst.take; rw [hu, hq]
      rw [e1]
      dsimp only
      obtain ⟨g0, rfl, hg0, -, hcs⟩ := hA (by rw [hq]; simp)
      have hcj : ∀ k u, (jc Value.string j)[k]? = some u → w.cell? ⟨g0, k, none⟩ = some u := fun k u hu => by
        have := hcs 0 j (by rw [hq]; rfl) k u hu
        simpa using this
      have x0 := hcj 0 _ rfl
      have x1 := hcj 1 _ rfl
      have x2 := hcj 2 _ rfl
      have x3 := hcj 3 _ rfl
      have x4 := hcj 4 _ rfl
      have x5 := hcj 5 _ rfl
      have x6 := hcj 6 _ rfl
      have x7 := hcj 7 _ rfl
      have x8 := hcj 8 _ rfl
      have HSL := Lib.hid (fun b (hb : h.S b) => HP.out.S_lt hb)
      have HOJ : Hid (okj j) := Lib.hid (HP.out.okq j (by rw [hq]; exact List.mem_cons_self ..))
      have HLE : Hid ((j :: r).length ≤ 64) := Lib.hid (by rw [← hq]; exact HP.out.le)
      have HBL : Hid (B ≤ w.heap.size) := Lib.hid HP.out.B_le
      obtain ⟨N, hN⟩ : ∃ N, s.q.length = N := ⟨_, rfl⟩
      have hN0 : 0 < N := by rw [← hN, hq]; simp
      rw [hN] at c0
      have d0 : ((N : Int) == 0) = false := by rw [beq_eq_false_iff_ne]; omega
      have i5 : (0 : Int) < (N : Int) := by omega
      obtain ⟨sq, us⟩ := s
      obtain ⟨pb, wb, qv, js⟩ := h
      dsimp only at hq hN c0 c1 hx' HP HWK HU HK i2 h4 HSL ⊢
      subst hq
      have HQV0 := Lib.hid hqv
      have HKJ := Lib.hid hkj
      clear e1 hx hU hu ho hkj hA hqv hN hcs hcj
      go_enter Tryz.func116, Tryz.ntmps116
      go_wp2_with fail
      refine HWK.out.mono ?_
      rintro e w2 ⟨rfl, rfl⟩
      obtain ⟨b, hb0⟩ : ∃ b, b = w.heap.size := ⟨_, rfl⟩
      have HB0 := Lib.hid hb0
      clear hb0
      go_upto_region 7 with (
        refine store_fld rfl rfl 203 (.tmp 7) (.tmp 35) rfl w.heap.size 0 (.agg #[.bool j.call, .int .i64 j.id.kind, .bool false, .string j.id.text, .slice none 0 0, .slice none 0 0, .string j.name, Value.string j.x, .bool j.can]) [.bool j.call, .int .i64 j.id.kind, .bool false, .string j.id.text, .slice none 0 0, .slice none 0 0, .string j.name, Value.string j.x, .bool j.can] rfl rfl rfl #[.bool j.call, .int .i64 j.id.kind, .bool false, .string j.id.text, .slice none 0 0, .slice none 0 0, .string j.name, Value.string j.x, .bool j.can] (BK.new w _ _) (by kernel_rfl) (Nat.le_of_ble_eq_true rfl) (jc_one1_s j) rfl ?_
        intro w2 hS hbt hsz)
      have hbw : Below w.heap.size w w2 := hbt.below (made_end' w _) (Nat.le_refl _) (by simp)
      replace HP := Lib.hid (HP.out.on hbw)
      have HB := Lib.hid hbw
      have HX := Lib.hid hS
      rw [← HB0.out] at HX ⊢
      clear hbw hS hbt hsz x0 x1 x2 x3 x4 x5 x6 x7 x8 c0 c1 hx' d0 i5 HWK
      have HNE : Hid (pb ≠ wb) := Lib.hid HP.out.ne
      refine start_ (n := 16) (S := (fun W => BK W pb 200 #[qv, .slice (some ⟨wb, 0, none⟩) js.length js.length])) (ds := [12, 15]) #[false, false, false, false, false, false, false, false, false, false, false, false, false, false, false, false] (by kernel_rfl) rfl rfl (HP.out.box.on (Below.refl _ _).drew) (fun hHeld => ?_)
      have hbd := (Below.refl w2.heap.size w2).drew
      replace HP := Lib.hid (HP.out.on hbd)
      replace HX := Lib.hid (HX.out.on hbd)
      replace HB := Lib.hid (HB.out.trans (hbd.mono HB.out.size))
      clear hbd
      generalize w2.drew = w3 at *
      refine pure_ (i := 0) (N := some 36) (v := ?_) (a' := ?_) #[true, false, false, false, false, false, false, false, false, false, false, false, false, false, false, false] rfl rfl (by kernel_rfl) (fun _ _ _ h => h) (Or.inl ⟨by rfl, ?_⟩) ?_ ?_
      rotate_left
      · intro w'; go_simp; with_reducible rfl
      rotate_left
      · simp only [Act.put, List.setIfInBounds_toArray, List.set_cons_zero, List.set_cons_succ, i64_w, i32_w]; rfl
      refine pure_ (i := 1) (N := some 37) (v := ?_) (a' := ?_) #[true, true, false, false, false, false, false, false, false, false, false, false, false, false, false, false] rfl rfl (by kernel_rfl) (fun _ _ _ h => h) (Or.inl ⟨by rfl, ?_⟩) ?_ ?_
      rotate_left
      · intro w'; go_simp; with_reducible rfl
      rotate_left
      · simp only [Act.put, List.setIfInBounds_toArray, List.set_cons_zero, List.set_cons_succ, i64_w, i32_w]; rfl
      refine pure_ (i := 2) (N := some 38) (v := ?_) (a' := ?_) #[true, true, true, false, false, false, false, false, false, false, false, false, false, false, false, false] rfl rfl (by kernel_rfl) (fun _ _ _ h => h) (Or.inl ⟨by rfl, ?_⟩) ?_ ?_
      rotate_left
      · intro w'; go_simp; with_reducible rfl
      rotate_left
      · simp only [Act.put, List.setIfInBounds_toArray, List.set_cons_zero, List.set_cons_succ, i64_w, i32_w]; rfl
      refine pure_ (i := 4) (N := some 40) (v := ?_) (a' := ?_) #[true, true, true, false, true, false, false, false, false, false, false, false, false, false, false, false] rfl rfl (by kernel_rfl) (fun _ _ _ h => h) (Or.inl ⟨by rfl, ?_⟩) ?_ ?_
      rotate_left
      · intro w'; go_simp; with_reducible rfl
      rotate_left
      · simp only [Act.put, List.setIfInBounds_toArray, List.set_cons_zero, List.set_cons_succ, i64_w, i32_w]; rfl
      refine pure_ (i := 5) (N := some 41) (v := ?_) (a' := ?_) #[true, true, true, false, true, true, false, false, false, false, false, false, false, false, false, false] rfl rfl (by kernel_rfl) (fun _ _ _ h => h) (Or.inl ⟨by rfl, ?_⟩) ?_ ?_
      rotate_left
      · intro w'; go_simp; with_reducible rfl
      rotate_left
      · simp only [Act.put, List.setIfInBounds_toArray, List.set_cons_zero, List.set_cons_succ, i64_w, i32_w]; rfl
      refine pure_ (i := 6) (N := some 42) (v := ?_) (a' := ?_) #[true, true, true, false, true, true, true, false, false, false, false, false, false, false, false, false] rfl rfl (by kernel_rfl) (fun _ _ _ h => h) (Or.inl ⟨by rfl, ?_⟩) ?_ ?_
      rotate_left
      · intro w'; go_simp; with_reducible rfl
      rotate_left
      · simp only [Act.put, List.setIfInBounds_toArray, List.set_cons_zero, List.set_cons_succ, i64_w, i32_w]; rfl
      refine pure_ (i := 7) (N := some 43) (v := ?_) (a' := ?_) #[true, true, true, false, true, true, true, true, false, false, false, false, false, false, false, false] rfl rfl (by kernel_rfl) (fun _ _ _ h => h) (Or.inl ⟨by rfl, ?_⟩) ?_ ?_
      rotate_left
      · intro w'; go_simp; with_reducible rfl
      rotate_left
      · simp only [Act.put, List.setIfInBounds_toArray, List.set_cons_zero, List.set_cons_succ, i64_w, i32_w]; rfl
      refine pure_ (i := 8) (N := some 44) (v := ?_) (a' := ?_) #[true, true, true, false, true, true, true, true, true, false, false, false, false, false, false, false] rfl rfl (by kernel_rfl) (fun _ _ _ h => h) (Or.inl ⟨by rfl, ?_⟩) ?_ ?_
      rotate_left
      · intro w'; go_simp; with_reducible rfl
      rotate_left
      · simp only [Act.put, List.setIfInBounds_toArray, List.set_cons_zero, List.set_cons_succ, i64_w, i32_w]; rfl
      refine take_ (i := 3) (N := some 39) (v := ?_) (a' := ?_) #[true, true, true, true, true, true, true, true, true, false, false, false, false, false, false, false] rfl rfl (by kernel_rfl) (fun _ _ _ h => h) (Or.inl ⟨by rfl, ?_⟩) hHeld ?_ ?_
      rotate_left
      · intro w' hh; have t0 := BK.c hh 0 rfl; have t1 := BK.c hh 1 rfl; clear hh; go_simp; with_reducible rfl
      rotate_left
      · simp only [Act.put, List.setIfInBounds_toArray, List.set_cons_zero, List.set_cons_succ, i64_w, i32_w]; rfl
      refine take_ (i := 9) (N := some 45) (v := ?_) (a' := ?_) #[true, true, true, true, true, true, true, true, true, true, false, false, false, false, false, false] rfl rfl (by kernel_rfl) (fun _ _ _ h => h) (Or.inl ⟨by rfl, ?_⟩) hHeld ?_ ?_
      rotate_left
      · intro w' hh; have t0 := BK.c hh 0 rfl; have t1 := BK.c hh 1 rfl; clear hh; go_simp; with_reducible rfl
      rotate_left
      · simp only [Act.put, List.setIfInBounds_toArray, List.set_cons_zero, List.set_cons_succ, i64_w, i32_w]; rfl
      refine one_ (i := 10) (N := some 46) #[true, true, true, true, true, true, true, true, true, true, true, false, false, false, false, false] rfl rfl (by kernel_rfl) (by decide) (fun K hK => ?_)
      refine goes_ Tryz.func165 (by kernel_rfl) rfl #[qv, .int .i64 0, .int .i64 1] (by rfl) rfl rfl (by (try simp only [List.map_toArray, List.map_cons, List.map_nil]); first | done | rfl) ?_
      refine (del_s (j :: r) B 0 0 1 qv w3 HP.out.q HLE.out (by simp) rfl rfl).mono ?_
      rintro e w4 ⟨g, cap, hqv, rfl, hown, hbt⟩
      have HBT := Lib.hid hbt
      have HOWN := Lib.hid hown
      have HQV := Lib.hid hqv
      clear hbt hown hqv
      refine ⟨_, rfl, ?_⟩
      have hgq : qv.ownBlock = some g := by rw [HQV.out]; rfl
      have hf : BK w4 pb 200 #[qv, .slice (some ⟨wb, 0, none⟩) js.length js.length] := HP.out.box.but HBT.out (fun e => HP.out.pq (hgq.trans (congrArg some e.symm)))
      have hw : BK w4 wb 204 (js.map pv).toArray := HP.out.ws.but HBT.out (fun e => HP.out.wq (hgq.trans (congrArg some e.symm)))
      have HF := Lib.hid hf
      have HW2 := Lib.hid hw
      have HGQ := Lib.hid hgq
      clear hf hw hgq
      refine hK.out _ _ HF.out (fun hHeld2 => ?_)
      clear hK K hHeld hHeld2
      refine norm_ (a' := ?_) ?_ ?_
      rotate_left
      · show Act.put _ (some 46) _ = _; simp only [Act.put, List.setIfInBounds_toArray, List.set_cons_zero, List.set_cons_succ, i64_w, i32_w]; rfl
      refine pure_ (i := 11) (N := some 47) (v := ?_) (a' := ?_) #[true, true, true, true, true, true, true, true, true, true, true, true, false, false, false, false] rfl rfl (by kernel_rfl) (fun _ _ _ h => h) (Or.inl ⟨by rfl, ?_⟩) ?_ ?_
      rotate_left
      · intro w'; go_simp; with_reducible rfl
      rotate_left
      · simp only [Act.put, List.setIfInBounds_toArray, List.set_cons_zero, List.set_cons_succ, i64_w, i32_w]; rfl
      refine last_ (i := 12) (N := none) #[true, true, true, true, true, true, true, true, true, true, true, true, true, false, false, false] rfl rfl (by kernel_rfl) (by decide) (fun K hK => ?_)
      have c0 := HW2.out.c k (by simp [HK.out]; rfl)
      have f0 := HW2.out.fr k
      refine skip_ (w1 := w4.setCell ⟨wb, k, none⟩ (.pointer (some ⟨b, 0, none⟩))) rfl rfl ?_ (hK.out _ _ ?_)
      · go_simp
        all_goals first | rfl | (constructor <;> rfl)
      clear hK K c0 f0
      refine pure_ (i := 13) (N := some 48) (v := ?_) (a' := ?_) #[true, true, true, true, true, true, true, true, true, true, true, true, true, true, false, false] rfl rfl (by kernel_rfl) (fun _ _ _ h => h) (Or.inl ⟨by rfl, ?_⟩) ?_ ?_
      rotate_left
      · intro w'; go_simp; with_reducible rfl
      rotate_left
      · simp only [Act.put, List.setIfInBounds_toArray, List.set_cons_zero, List.set_cons_succ, i64_w, i32_w]; rfl
      refine pure_ (i := 14) (N := some 49) (v := ?_) (a' := ?_) #[true, true, true, true, true, true, true, true, true, true, true, true, true, true, true, false] rfl rfl (by kernel_rfl) (fun _ _ _ h => h) (Or.inl ⟨by rfl, ?_⟩) ?_ ?_
      rotate_left
      · intro w'; go_simp; with_reducible rfl
      rotate_left
      · simp only [Act.put, List.setIfInBounds_toArray, List.set_cons_zero, List.set_cons_succ, i64_w, i32_w]; rfl
      refine last_ (i := 15) (N := none) #[true, true, true, true, true, true, true, true, true, true, true, true, true, true, true, true] rfl rfl (by kernel_rfl) (by decide) (fun K hK => ?_)
      have HF3 : Hid (BK (w4.setCell ⟨wb, k, none⟩ (.pointer (some ⟨b, 0, none⟩))) pb 200 #[qv, .slice (some ⟨wb, 0, none⟩) js.length js.length]) := Lib.hid (HF.out.far _ HNE.out)
      obtain ⟨w5, hw5⟩ : ∃ x, x = w4.setCell ⟨wb, k, none⟩ (.pointer (some ⟨b, 0, none⟩)) := ⟨_, rfl⟩
      rw [← hw5] at HF3 ⊢
      have HW5 := Lib.hid hw5
      clear hw5
      have c0 := HF3.out.c 0 rfl
      have f0 := HF3.out.fr 0
      refine skip_ (w1 := w5.setCell ⟨pb, 0, none⟩ (.slice (some ⟨g, 0, none⟩) ((j :: r).length - 1) cap)) rfl rfl ?_ (hK.out _ _ ?_)
      · go_simp
        all_goals first | rfl | (constructor <;> rfl)
      clear hK K c0 f0
      refine done_ (by kernel_rfl) ?_

      go_wp2
      go_ret2
      obtain ⟨hr1, hr2⟩ := PM.requeue (q' := r) (v' := .slice (some ⟨g, 0, none⟩) ((j :: r).length - 1) cap) (w1 := w4) HP.out (by have := HOWN.out; simpa using this) (by have := HLE.out; simp at this; omega) (fun a ha => HP.out.okq a (List.mem_cons_of_mem _ ha))
        (fun b' hb' => .inl (by have e : g = b' := by simpa [Value.ownBlock] using hb'
                                rw [← e]; exact HGQ.out)) HBT.out.os HBT.out.tape HBT.out.output HBT.out.size (fun b' hb' hn => HBT.out.block b' hb' (fun e => hn (by rw [e]; exact HGQ.out)))
      have hnS : ∀ b', (PH.mk pb wb qv js).S b' → b' < b := fun b' hb' => by rw [HB0.out]; exact HSL.out b' hb'
      have hbg : b ≠ g := fun e => by have := hnS g (.inr (.inr (.inl HGQ.out))); omega
      have hbp : b ≠ pb := fun e => by have := hnS pb (.inl rfl); omega
      have hX6 : BK (w4.setCell ⟨pb, 0, none⟩ (.slice (some ⟨g, 0, none⟩) ((j :: r).length - 1) cap)) b 203 (jc Value.string j).toArray := (BK.but HX.out HBT.out hbg).far _ hbp
      obtain ⟨hp1, hp2, hp3⟩ := hr1.worker (k := k) HKJ.out (some b) (some j) hX6 (fun j' e => by injection e with e; rw [← e]; exact HOJ.out)
        (fun g' e => by
          injection e with e
          subst e
          refine ⟨fun hs => ?_, by rw [HB0.out]; exact HBL.out⟩
          rcases hr2.new b hs with h1 | h1
          · exact Nat.lt_irrefl _ (hnS b h1)
          · have := HX.out.lt; omega)
      have hc : (w5.setCell ⟨pb, 0, none⟩ (.slice (some ⟨g, 0, none⟩) ((j :: r).length - 1) cap)) = (w4.setCell ⟨pb, 0, none⟩ (.slice (some ⟨g, 0, none⟩) ((j :: r).length - 1) cap)).setCell ⟨wb, k, none⟩ (pv (some b)) := by
        rw [HW5.out]; exact set_comm w4 _ _ (fun e => HNE.out e.symm)
      rw [hc]
      exact ⟨⟨pb, wb, .slice (some ⟨g, 0, none⟩) ((j :: r).length - 1) cap, js.set k (some b)⟩, rfl, rfl, hp1, ((Mv.of HB.out).trans hr2).store _ (.inr (.inl rfl)) (fun b' hb' => by
        rcases hp3 b' hb' with h1 | h1
        · exact .inl h1
        · injection h1 with h1; right; rw [← h1, HB0.out]; exact Nat.le_refl _)⟩
end Go.Proofs.YtfploakafbnigaaGreatDoor
