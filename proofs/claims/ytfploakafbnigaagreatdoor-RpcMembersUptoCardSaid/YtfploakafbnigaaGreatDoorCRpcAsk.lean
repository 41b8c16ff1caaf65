/-
  Layer 12, the walks: asks.
-/
import Derived.Test.YtfploakafbnigaaGreatDoorCRpcMake
namespace Go.Proofs.YtfploakafbnigaaGreatDoor
open Go.RowKit Val Num YtfploakafbnigaaGreatDoorW.PrintLast
set_option linter.unusedVariables false
set_option linter.unusedSimpArgs false
set_option maxRecDepth 100000 in
set_option maxHeartbeats 8000000 in
theorem asks_any (t u : VT) (z z' : Zone) (v v' : Value) (w : World) (h : VLV z t w v) (h' : VLV z' u w v') (hM : ML w) (hk : t.bulk ≤ 1073741820) : Calls Tryz.prog 96 #[v, v'] w (MkM2 (VT.askMu t u) (.bool (VT.askOku t u)) w) := by
  obtain ⟨bP, uP, e1, e2, hkP, -, GP⟩ := got_let t VT.paramsN (by omega)
  obtain ⟨bI, uI, e3, e4, hkI, hnI, GI⟩ := got_let t VT.idN (by omega)
  unfold VT.askMu VT.askOku
  rw [e1, e2, e3, e4]
  obtain ⟨b3, hb3⟩ : ∃ b, (u.kind == 3) = b := ⟨_, rfl⟩
  rw [show decide (u.kind = 3) = b3 from hb3]
  generalize hmm : MT.mk _ _ _ _ _ _ _ _ = mm
  generalize hbb : (_ && _ && _) = bb
  have HMM := Lib.hid hmm
  have HBB := Lib.hid hbb
  clear hmm hbb
  obtain ⟨At, nt, ct, Bt, mt, dt, rfl⟩ := h.parts
  obtain ⟨Au, nu, cu, Bu, mu, du, rfl⟩ := h'.parts
  have HT : Hid (∀ W (v : Value) (z : Zone), VLV z uI W v → ML W → Calls Tryz.prog 102 #[v] W (Made (.bool uI.isId) W)) := Lib.hid (fun W v z hv hM => isId_any uI z v W hv hM (by omega))
  have HL : Hid (∀ W (v : Value) (z : Zone), VLV z uP W v → Calls Tryz.prog 149 #[v] W (Made (.bool uP.isList) W)) := Lib.hid (fun W v z hv => isList_any uP z v W hv)
  have HNI := Lib.hid hnI
  have Ht := Lib.hid h.old
  have Hu := Lib.hid h'.old
  have HM := Lib.hid hM
  have HM0 := Lib.hid hM
  have HB := Lib.hid (Below.refl w.heap.size w)
  clear h h' hM hk hkP hkI hnI e1 e2 e3 e4
  generalize uI.isId = q at *
  generalize uP.isList = l at *
  go_enter Tryz.func96, Tryz.ntmps96
  go_wp2_with (
    refine store3 rfl rfl 46 (.tmp 4) (.tmp 10) rfl rfl #[.int .i64 2, .int .i64 0, .bool false, .string ⟨#[]⟩, .slice none 0 0, .slice none 0 0, .string u.text, .bool false, .int .i64 0, .bool false, .string ⟨#[]⟩, .slice none 0 0, .slice none 0 0, .int .i64 0, .bool false, .string ⟨#[]⟩, .slice none 0 0, .slice none 0 0, .int .i64 0, .string ⟨#[]⟩] rfl (by kernel_rfl) rfl (by simp [Value.oneCell']) ?_
    intro w1 hX0 hX1 hX2 hb hz
    replace Ht := Lib.hid (Ht.out.up hb)
    replace Hu := Lib.hid (Hu.out.up hb)
    replace HM := Lib.hid (HM.out.on hb)
    replace HB := Lib.hid (HB.out.trans (hb.mono HB.out.size))
    have HK := Lib.hid (Blks.cons hX2 (Blks.cons hX1 (Blks.one hX0)))
    have HQ := Lib.hid hz
    clear hb hX0 hX1 hX2 hz
    have hg := Blks.hd (Blks.tl (Blks.tl HK.out))
    have y0 := hg.c 0 rfl
    have y1 := hg.c 1 rfl
    have y2 := hg.c 2 rfl
    have y3 := hg.c 3 rfl
    have y4 := hg.c 4 rfl
    clear hg)
  clear y0 y1 y2 y3 y4
  refine (GP w1 _ _ Ht.out).mono ?_
  rintro e w2 ⟨v', rfl, hv, hb, hnf⟩
  obtain ⟨AP, nP, cP, BP, mP, dP, rfl⟩ := VAL.parts hv
  have HVP := Lib.hid (VAL.zf hv hnf HQ.out)
  clear hv hnf
  replace Ht := Lib.hid (Ht.out.up hb)
  replace Hu := Lib.hid (Hu.out.up hb)
  replace HM := Lib.hid (HM.out.on hb)
  replace HQ := Lib.hid (Nat.le_trans HQ.out hb.size)
  replace HK := Lib.hid (HK.out.on hb)
  replace HB := Lib.hid (HB.out.trans (hb.mono HB.out.size))
  clear hb
  go_wp2_with (first
    | (refine store_fld rfl rfl 25 (.tmp 16) (.tmp 14) rfl (w.heap.size + 1 + 1) 8 (.agg #[.int .i64 uP.kind, .bool uP.is, .string uP.text, .slice AP nP cP, .slice BP mP dP]) [.int .i64 uP.kind, .bool uP.is, .string uP.text, .slice AP nP cP, .slice BP mP dP] rfl rfl rfl #[.int .i64 2, .int .i64 0, .bool false, .string ⟨#[]⟩, .slice none 0 0, .slice none 0 0, .string u.text, .bool false, .int .i64 uP.kind, .bool uP.is, .string uP.text, .slice AP nP cP, .slice BP mP dP, .int .i64 0, .bool false, .string ⟨#[]⟩, .slice none 0 0, .slice none 0 0, .int .i64 0, .string ⟨#[]⟩] (Blks.hd HK.out) (by kernel_rfl) (Nat.le_of_ble_eq_true rfl) (by simp [Value.oneCell']) rfl ?_
       intro w3 hS hbt hsz
       replace Ht := Lib.hid (Ht.out.butL hbt (by omega))
       replace Hu := Lib.hid (Hu.out.butL hbt (by omega))
       replace HM := Lib.hid (ML.but2 HM0.out HM.out hbt (by omega))
       replace HQ := Lib.hid (Nat.le_trans HQ.out hbt.size)
       replace HVP := Lib.hid (HVP.out.but hbt (by omega))
       replace HK := Lib.hid (Blks.cons hS (Blks.cons (BK.but (Blks.hd (Blks.tl HK.out)) hbt (by omega)) (Blks.one (BK.but (Blks.hd (Blks.tl (Blks.tl HK.out))) hbt (by omega)))))
       replace HB := Lib.hid (hbt.below HB.out (by omega) HB.out.size)
       clear hbt hS hsz)
    | (refine store_fld rfl rfl 4 (.tmp 17) (.tmp 15) rfl (w.heap.size + 1 + 1) 7 (.bool bP) [.bool bP] rfl rfl rfl #[.int .i64 2, .int .i64 0, .bool false, .string ⟨#[]⟩, .slice none 0 0, .slice none 0 0, .string u.text, .bool bP, .int .i64 uP.kind, .bool uP.is, .string uP.text, .slice AP nP cP, .slice BP mP dP, .int .i64 0, .bool false, .string ⟨#[]⟩, .slice none 0 0, .slice none 0 0, .int .i64 0, .string ⟨#[]⟩] (Blks.hd HK.out) (by kernel_rfl) (Nat.le_of_ble_eq_true rfl) (by simp [Value.oneCell']) rfl ?_
       intro w4 hS hbt hsz
       replace Ht := Lib.hid (Ht.out.butL hbt (by omega))
       replace Hu := Lib.hid (Hu.out.butL hbt (by omega))
       replace HM := Lib.hid (ML.but2 HM0.out HM.out hbt (by omega))
       replace HQ := Lib.hid (Nat.le_trans HQ.out hbt.size)
       replace HVP := Lib.hid (HVP.out.but hbt (by omega))
       replace HK := Lib.hid (Blks.cons hS (Blks.cons (BK.but (Blks.hd (Blks.tl HK.out)) hbt (by omega)) (Blks.one (BK.but (Blks.hd (Blks.tl (Blks.tl HK.out))) hbt (by omega)))))
       replace HB := Lib.hid (hbt.below HB.out (by omega) HB.out.size)
       clear hbt hS hsz
       have hg := Blks.hd (Blks.tl (Blks.tl HK.out))
       have y0 := hg.c 0 rfl
       have y1 := hg.c 1 rfl
       have y2 := hg.c 2 rfl
       have y3 := hg.c 3 rfl
       have y4 := hg.c 4 rfl
       clear hg))
  clear y0 y1 y2 y3 y4
  refine (GI w4 _ _ Ht.out).mono ?_
  rintro e w5 ⟨v', rfl, hv, hb, hnf⟩
  obtain ⟨AI, nI, cI, BI, mI, dI, rfl⟩ := VAL.parts hv
  have HVI := Lib.hid (VAL.zf hv hnf HQ.out)
  clear hv hnf
  replace Ht := Lib.hid (Ht.out.up hb)
  replace Hu := Lib.hid (Hu.out.up hb)
  replace HM := Lib.hid (HM.out.on hb)
  replace HQ := Lib.hid (Nat.le_trans HQ.out hb.size)
  replace HVP := Lib.hid (HVP.out.up hb)
  replace HK := Lib.hid (HK.out.on hb)
  replace HB := Lib.hid (HB.out.trans (hb.mono HB.out.size))
  clear hb
  cases bI
  · skip
    have HUI := Lib.hid (HNI.out rfl)
    clear HNI
    go_wp2_with fail
    have HGgI := Lib.hid ((Blks.hd HK.out).lt)
    have hb : Below w5.heap.size w5 (w5.alloc (.cells #[.int .i64 uI.kind, .bool uI.is, .string uI.text, .slice AI nI cI, .slice BI mI dI] 25)) := made_end' w5 _
    replace Ht := Lib.hid (Ht.out.up hb)
    replace Hu := Lib.hid (Hu.out.up hb)
    replace HM := Lib.hid (HM.out.on hb)
    replace HQ := Lib.hid (Nat.le_trans HQ.out hb.size)
    replace HVP := Lib.hid (HVP.out.up hb)
    replace HVI := Lib.hid (HVI.out.up hb)
    replace HK := Lib.hid (HK.out.on hb)
    replace HB := Lib.hid (HB.out.trans (hb.mono HB.out.size))
    have hX0 : BK (w5.alloc (.cells #[.int .i64 uI.kind, .bool uI.is, .string uI.text, .slice AI nI cI, .slice BI mI dI] 25)) (w5.heap.size) 25 #[.int .i64 uI.kind, .bool uI.is, .string uI.text, .slice AI nI cI, .slice BI mI dI] := BK.new w5 _ _
    replace HK := Lib.hid (Blks.cons hX0 HK.out)
    clear hb hX0
    generalize (w5.alloc (.cells #[.int .i64 uI.kind, .bool uI.is, .string uI.text, .slice AI nI cI, .slice BI mI dI] 25)) = w6 at *
    generalize w5.heap.size = gI at *
    cases b3 <;> cases q <;> cases bP
    all_goals (
      have hb : Below w6.heap.size w6 w6.drew := (Below.refl _ _).drew
      refine start_ (n := 24) (S := Blks [⟨gI, 25, #[.int .i64 uI.kind, .bool uI.is, .string uI.text, .slice AI nI cI, .slice BI mI dI]⟩, ⟨w.heap.size + 1 + 1, 46, #[.int .i64 2, .int .i64 0, .bool false, .string ⟨#[]⟩, .slice none 0 0, .slice none 0 0, .string u.text, .bool _, .int .i64 uP.kind, .bool uP.is, .string uP.text, .slice AP nP cP, .slice BP mP dP, .int .i64 0, .bool false, .string ⟨#[]⟩, .slice none 0 0, .slice none 0 0, .int .i64 0, .string ⟨#[]⟩]⟩, ⟨w.heap.size + 1, 25, #[.int .i64 u.kind, .bool u.is, .string u.text, .slice Au nu cu, .slice Bu mu du]⟩]) (ds := [22]) #[false, false, false, false, false, false, false, false, false, false, false, false, false, false, false, false, false, false, false, false, false, false, false, false] (by kernel_rfl) rfl rfl (Blks.on (Blks.cons (Blks.hd HK.out) (Blks.cons (Blks.hd (Blks.tl HK.out)) (Blks.one (Blks.hd (Blks.tl (Blks.tl HK.out)))))) hb) (fun hHeld => ?_)
      replace Ht := Lib.hid (Ht.out.up hb)
      replace Hu := Lib.hid (Hu.out.up hb)
      replace HM := Lib.hid (HM.out.on hb)
      replace HQ := Lib.hid (Nat.le_trans HQ.out hb.size)
      replace HVP := Lib.hid (HVP.out.up hb)
      replace HVI := Lib.hid (HVI.out.up hb)
      replace HK := Lib.hid (HK.out.on hb)
      replace HB := Lib.hid (HB.out.trans (hb.mono HB.out.size))
      clear hb
      generalize w6.drew = w7 at *
      refine take_ (i := 0) (N := some 27) (v := .agg #[.int .i64 2, .int .i64 0, .bool false, .string ⟨#[]⟩, .slice none 0 0, .slice none 0 0, .string u.text, .bool _, .int .i64 uP.kind, .bool uP.is, .string uP.text, .slice AP nP cP, .slice BP mP dP, .int .i64 0, .bool false, .string ⟨#[]⟩, .slice none 0 0, .slice none 0 0, .int .i64 0, .string ⟨#[]⟩]) (a' := ?_) #[true, false, false, false, false, false, false, false, false, false, false, false, false, false, false, false, false, false, false, false, false, false, false, false] rfl rfl (by kernel_rfl) (fun _ _ _ h => h) (yields_row (by rfl) 46 (.tmp 4) rfl (w.heap.size + 1 + 1) (by rfl) 46 #[.int .i64 2, .int .i64 0, .bool false, .string ⟨#[]⟩, .slice none 0 0, .slice none 0 0, .string u.text, .bool _, .int .i64 uP.kind, .bool uP.is, .string uP.text, .slice AP nP cP, .slice BP mP dP, .int .i64 0, .bool false, .string ⟨#[]⟩, .slice none 0 0, .slice none 0 0, .int .i64 0, .string ⟨#[]⟩] _ (fun w' hh => Blks.hd (Blks.tl hh)) Tryz.underlying46 rfl (by kernel_rfl)) hHeld ?_ ?_
      rotate_left
      · simp only [Act.put, List.setIfInBounds_toArray, List.set_cons_zero, List.set_cons_succ, i64_w, i32_w]; rfl
      refine pure_ (i := 1) (N := some 28) (v := ?_) (a' := ?_) #[true, true, false, false, false, false, false, false, false, false, false, false, false, false, false, false, false, false, false, false, false, false, false, false] rfl rfl (by kernel_rfl) (fun _ _ _ h => h) (Or.inl ⟨by rfl, ?_⟩) ?_ ?_
      rotate_left
      · intro w'; go_simp; with_reducible rfl
      rotate_left
      · simp only [Act.put, List.setIfInBounds_toArray, List.set_cons_zero, List.set_cons_succ, i64_w, i32_w]; rfl
      refine take_ (i := 2) (N := some 29) (v := ?_) (a' := ?_) #[true, true, true, false, false, false, false, false, false, false, false, false, false, false, false, false, false, false, false, false, false, false, false, false] rfl rfl (by kernel_rfl) (fun _ _ _ h => h) (Or.inl ⟨by rfl, ?_⟩) hHeld ?_ ?_
      rotate_left
      · intro w' hh; have hg := Blks.hd (Blks.tl (Blks.tl hh)); have t0 := hg.c 0 rfl; clear hh hg; go_simp; with_reducible rfl
      rotate_left
      · simp only [Act.put, List.setIfInBounds_toArray, List.set_cons_zero, List.set_cons_succ, i64_w, i32_w]; rfl
      refine pure_ (i := 3) (N := some 30) (v := ?_) (a' := ?_) #[true, true, true, true, false, false, false, false, false, false, false, false, false, false, false, false, false, false, false, false, false, false, false, false] rfl rfl (by kernel_rfl) (fun _ _ _ h => h) (Or.inl ⟨by rfl, ?_⟩) ?_ ?_
      rotate_left
      · intro w'; go_simp; with_reducible rfl
      rotate_left
      · simp only [Act.put, List.setIfInBounds_toArray, List.set_cons_zero, List.set_cons_succ, i64_w, i32_w]; rfl
      refine pure_ (i := 4) (N := some 31) (v := ?_) (a' := ?_) #[true, true, true, true, true, false, false, false, false, false, false, false, false, false, false, false, false, false, false, false, false, false, false, false] rfl rfl (by kernel_rfl) (fun _ _ _ h => h) (Or.inl ⟨by rfl, ?_⟩) ?_ ?_
      rotate_left
      · intro w'; go_simp; with_reducible rfl
      rotate_left
      · simp only [Act.put, List.setIfInBounds_toArray, List.set_cons_zero, List.set_cons_succ, i64_w, i32_w]; rfl
      first
      | (refine pure_ (i := 5) (N := some 32) (v := undef) #[true, true, true, true, true, true, false, false, false, false, false, false, false, false, false, false, false, false, false, false, false, false, false, false] rfl rfl (by kernel_rfl) (fun _ _ _ h => h) (Or.inr ⟨by rfl, rfl⟩) (by simp only [Act.put, List.setIfInBounds_toArray, List.set_cons_zero, List.set_cons_succ, i64_w, i32_w]; rfl) ?_)
      | (refine pure_ (i := 5) (N := some 32) (v := ?_) (a' := ?_) #[true, true, true, true, true, true, false, false, false, false, false, false, false, false, false, false, false, false, false, false, false, false, false, false] rfl rfl (by kernel_rfl) (fun _ _ _ h => h) (Or.inl ⟨by rfl, ?_⟩) ?_ ?_
         rotate_left
         · intro w'; go_simp; with_reducible rfl
         rotate_left
         · simp only [Act.put, List.setIfInBounds_toArray, List.set_cons_zero, List.set_cons_succ, i64_w, i32_w]; rfl)
      first
      | (refine pure_ (i := 6) (N := some 33) (v := undef) #[true, true, true, true, true, true, true, false, false, false, false, false, false, false, false, false, false, false, false, false, false, false, false, false] rfl rfl (by kernel_rfl) (fun _ _ _ h => h) (Or.inr ⟨by rfl, rfl⟩) (by simp only [Act.put, List.setIfInBounds_toArray, List.set_cons_zero, List.set_cons_succ, i64_w, i32_w]; rfl) ?_)
      | (refine pure_ (i := 6) (N := some 33) (v := ?_) (a' := ?_) #[true, true, true, true, true, true, true, false, false, false, false, false, false, false, false, false, false, false, false, false, false, false, false, false] rfl rfl (by kernel_rfl) (fun _ _ _ h => h) (Or.inl ⟨by rfl, ?_⟩) ?_ ?_
         rotate_left
         · intro w'; go_simp; with_reducible rfl
         rotate_left
         · simp only [Act.put, List.setIfInBounds_toArray, List.set_cons_zero, List.set_cons_succ, i64_w, i32_w]; rfl)
      first
      | (refine pure_ (i := 7) (N := some 34) (v := undef) #[true, true, true, true, true, true, true, true, false, false, false, false, false, false, false, false, false, false, false, false, false, false, false, false] rfl rfl (by kernel_rfl) (fun _ _ _ h => h) (Or.inr ⟨by rfl, rfl⟩) (by simp only [Act.put, List.setIfInBounds_toArray, List.set_cons_zero, List.set_cons_succ, i64_w, i32_w]; rfl) ?_)
      | (refine pure_ (i := 7) (N := some 34) (v := ?_) (a' := ?_) #[true, true, true, true, true, true, true, true, false, false, false, false, false, false, false, false, false, false, false, false, false, false, false, false] rfl rfl (by kernel_rfl) (fun _ _ _ h => h) (Or.inl ⟨by rfl, ?_⟩) ?_ ?_
         rotate_left
         · intro w'; go_simp; with_reducible rfl
         rotate_left
         · simp only [Act.put, List.setIfInBounds_toArray, List.set_cons_zero, List.set_cons_succ, i64_w, i32_w]; rfl)
      first
      | (refine pure_ (i := 8) (N := some 35) (v := undef) #[true, true, true, true, true, true, true, true, true, false, false, false, false, false, false, false, false, false, false, false, false, false, false, false] rfl rfl (by kernel_rfl) (fun _ _ _ h => h) (Or.inr ⟨by rfl, rfl⟩) (by simp only [Act.put, List.setIfInBounds_toArray, List.set_cons_zero, List.set_cons_succ, i64_w, i32_w]; rfl) ?_)
      | (refine take_ (i := 8) (N := some 35) (v := ?_) (a' := ?_) #[true, true, true, true, true, true, true, true, true, false, false, false, false, false, false, false, false, false, false, false, false, false, false, false] rfl rfl (by kernel_rfl) (fun _ _ _ h => h) (Or.inl ⟨by rfl, ?_⟩) hHeld ?_ ?_
         rotate_left
         · intro w' hh; have hg := Blks.hd hh; have t0 := hg.c 0 rfl; have t1 := hg.c 1 rfl; have t2 := hg.c 2 rfl; have t3 := hg.c 3 rfl; have t4 := hg.c 4 rfl; clear hh hg; go_simp; with_reducible rfl
         rotate_left
         · simp only [Act.put, List.setIfInBounds_toArray, List.set_cons_zero, List.set_cons_succ, i64_w, i32_w]; rfl)
      first
      | (refine pure_ (i := 9) (N := some 36) (v := undef) #[true, true, true, true, true, true, true, true, true, true, false, false, false, false, false, false, false, false, false, false, false, false, false, false] rfl rfl (by kernel_rfl) (fun _ _ _ h => h) (Or.inr ⟨by rfl, rfl⟩) (by simp only [Act.put, List.setIfInBounds_toArray, List.set_cons_zero, List.set_cons_succ, i64_w, i32_w]; rfl) ?_
         obtain ⟨w8, hw⟩ : ∃ x, x = w7 := ⟨_, rfl⟩
         subst hw)
      | (refine one_ (i := 9) (N := some 36) #[true, true, true, true, true, true, true, true, true, true, false, false, false, false, false, false, false, false, false, false, false, false, false, false] rfl rfl (by kernel_rfl) (by decide) (fun K hK => ?_)
         refine goes_ Tryz.func102 (by kernel_rfl) rfl #[.agg #[.int .i64 uI.kind, .bool uI.is, .string uI.text, .slice AI nI cI, .slice BI mI dI]] (by rfl) rfl rfl (by (try simp only [List.map_toArray, List.map_cons, List.map_nil]); first | done | rfl) ?_
         refine (HT.out w7 _ _ HVI.out.1 HM.out).mono ?_
         rintro e w8 ⟨rfl, hb⟩
         refine ⟨_, rfl, ?_⟩
         refine hK.out _ _ (hHeld.on hb) (fun hHeld' => ?_)
         clear hK K hHeld
         have hHeld := hHeld'
         clear hHeld'
         replace Ht := Lib.hid (Ht.out.up hb)
         replace Hu := Lib.hid (Hu.out.up hb)
         replace HM := Lib.hid (HM.out.on hb)
         replace HQ := Lib.hid (Nat.le_trans HQ.out hb.size)
         replace HVP := Lib.hid (HVP.out.up hb)
         replace HVI := Lib.hid (HVI.out.up hb)
         replace HK := Lib.hid (HK.out.on hb)
         replace HB := Lib.hid (HB.out.trans (hb.mono HB.out.size))
         clear hb
         refine norm_ (a' := ?_) ?_ ?_
         rotate_left
         · show Act.put _ (some 36) _ = _; simp only [Act.put, List.setIfInBounds_toArray, List.set_cons_zero, List.set_cons_succ, i64_w, i32_w]; rfl)
      first
      | (refine pure_ (i := 10) (N := some 37) (v := undef) #[true, true, true, true, true, true, true, true, true, true, true, false, false, false, false, false, false, false, false, false, false, false, false, false] rfl rfl (by kernel_rfl) (fun _ _ _ h => h) (Or.inr ⟨by rfl, rfl⟩) (by simp only [Act.put, List.setIfInBounds_toArray, List.set_cons_zero, List.set_cons_succ, i64_w, i32_w]; rfl) ?_)
      | (refine pure_ (i := 10) (N := some 37) (v := ?_) (a' := ?_) #[true, true, true, true, true, true, true, true, true, true, true, false, false, false, false, false, false, false, false, false, false, false, false, false] rfl rfl (by kernel_rfl) (fun _ _ _ h => h) (Or.inl ⟨by rfl, ?_⟩) ?_ ?_
         rotate_left
         · intro w'; go_simp; with_reducible rfl
         rotate_left
         · simp only [Act.put, List.setIfInBounds_toArray, List.set_cons_zero, List.set_cons_succ, i64_w, i32_w]; rfl)
      refine pure_ (i := 11) (N := some 38) (v := ?_) (a' := ?_) #[true, true, true, true, true, true, true, true, true, true, true, true, false, false, false, false, false, false, false, false, false, false, false, false] rfl rfl (by kernel_rfl) (fun _ _ _ h => h) (Or.inl ⟨by rfl, ?_⟩) ?_ ?_
      rotate_left
      · intro w'; go_simp; with_reducible rfl
      rotate_left
      · simp only [Act.put, List.setIfInBounds_toArray, List.set_cons_zero, List.set_cons_succ, i64_w, i32_w]; rfl
      refine pure_ (i := 12) (N := some 39) (v := ?_) (a' := ?_) #[true, true, true, true, true, true, true, true, true, true, true, true, true, false, false, false, false, false, false, false, false, false, false, false] rfl rfl (by kernel_rfl) (fun _ _ _ h => h) (Or.inl ⟨by rfl, ?_⟩) ?_ ?_
      rotate_left
      · intro w'; go_simp; with_reducible rfl
      rotate_left
      · simp only [Act.put, List.setIfInBounds_toArray, List.set_cons_zero, List.set_cons_succ, i64_w, i32_w]; rfl
      first
      | (refine pure_ (i := 13) (N := some 40) (v := undef) #[true, true, true, true, true, true, true, true, true, true, true, true, true, true, false, false, false, false, false, false, false, false, false, false] rfl rfl (by kernel_rfl) (fun _ _ _ h => h) (Or.inr ⟨by rfl, rfl⟩) (by simp only [Act.put, List.setIfInBounds_toArray, List.set_cons_zero, List.set_cons_succ, i64_w, i32_w]; rfl) ?_)
      | (refine pure_ (i := 13) (N := some 40) (v := ?_) (a' := ?_) #[true, true, true, true, true, true, true, true, true, true, true, true, true, true, false, false, false, false, false, false, false, false, false, false] rfl rfl (by kernel_rfl) (fun _ _ _ h => h) (Or.inl ⟨by rfl, ?_⟩) ?_ ?_
         rotate_left
         · intro w'; go_simp; with_reducible rfl
         rotate_left
         · simp only [Act.put, List.setIfInBounds_toArray, List.set_cons_zero, List.set_cons_succ, i64_w, i32_w]; rfl)
      first
      | (refine pure_ (i := 14) (N := some 41) (v := undef) #[true, true, true, true, true, true, true, true, true, true, true, true, true, true, true, false, false, false, false, false, false, false, false, false] rfl rfl (by kernel_rfl) (fun _ _ _ h => h) (Or.inr ⟨by rfl, rfl⟩) (by simp only [Act.put, List.setIfInBounds_toArray, List.set_cons_zero, List.set_cons_succ, i64_w, i32_w]; rfl) ?_)
      | (refine take_ (i := 14) (N := some 41) (v := ?_) (a' := ?_) #[true, true, true, true, true, true, true, true, true, true, true, true, true, true, true, false, false, false, false, false, false, false, false, false] rfl rfl (by kernel_rfl) (fun _ _ _ h => h) (Or.inl ⟨by rfl, ?_⟩) hHeld ?_ ?_
         rotate_left
         · intro w' hh; have hg := Blks.hd (Blks.tl hh); have t7 := hg.c 7 rfl; clear hh hg; go_simp; with_reducible rfl
         rotate_left
         · simp only [Act.put, List.setIfInBounds_toArray, List.set_cons_zero, List.set_cons_succ, i64_w, i32_w]; rfl)
      first
      | (refine pure_ (i := 15) (N := some 42) (v := undef) #[true, true, true, true, true, true, true, true, true, true, true, true, true, true, true, true, false, false, false, false, false, false, false, false] rfl rfl (by kernel_rfl) (fun _ _ _ h => h) (Or.inr ⟨by rfl, rfl⟩) (by simp only [Act.put, List.setIfInBounds_toArray, List.set_cons_zero, List.set_cons_succ, i64_w, i32_w]; rfl) ?_)
      | (refine pure_ (i := 15) (N := some 42) (v := ?_) (a' := ?_) #[true, true, true, true, true, true, true, true, true, true, true, true, true, true, true, true, false, false, false, false, false, false, false, false] rfl rfl (by kernel_rfl) (fun _ _ _ h => h) (Or.inl ⟨by rfl, ?_⟩) ?_ ?_
         rotate_left
         · intro w'; go_simp; with_reducible rfl
         rotate_left
         · simp only [Act.put, List.setIfInBounds_toArray, List.set_cons_zero, List.set_cons_succ, i64_w, i32_w]; rfl)
      first
      | (refine pure_ (i := 16) (N := some 43) (v := undef) #[true, true, true, true, true, true, true, true, true, true, true, true, true, true, true, true, true, false, false, false, false, false, false, false] rfl rfl (by kernel_rfl) (fun _ _ _ h => h) (Or.inr ⟨by rfl, rfl⟩) (by simp only [Act.put, List.setIfInBounds_toArray, List.set_cons_zero, List.set_cons_succ, i64_w, i32_w]; rfl) ?_)
      | (refine pure_ (i := 16) (N := some 43) (v := ?_) (a' := ?_) #[true, true, true, true, true, true, true, true, true, true, true, true, true, true, true, true, true, false, false, false, false, false, false, false] rfl rfl (by kernel_rfl) (fun _ _ _ h => h) (Or.inl ⟨by rfl, ?_⟩) ?_ ?_
         rotate_left
         · intro w'; go_simp; with_reducible rfl
         rotate_left
         · simp only [Act.put, List.setIfInBounds_toArray, List.set_cons_zero, List.set_cons_succ, i64_w, i32_w]; rfl)
      first
      | (refine pure_ (i := 17) (N := some 44) (v := undef) #[true, true, true, true, true, true, true, true, true, true, true, true, true, true, true, true, true, true, false, false, false, false, false, false] rfl rfl (by kernel_rfl) (fun _ _ _ h => h) (Or.inr ⟨by rfl, rfl⟩) (by simp only [Act.put, List.setIfInBounds_toArray, List.set_cons_zero, List.set_cons_succ, i64_w, i32_w]; rfl) ?_)
      | (refine pure_ (i := 17) (N := some 44) (v := ?_) (a' := ?_) #[true, true, true, true, true, true, true, true, true, true, true, true, true, true, true, true, true, true, false, false, false, false, false, false] rfl rfl (by kernel_rfl) (fun _ _ _ h => h) (Or.inl ⟨by rfl, ?_⟩) ?_ ?_
         rotate_left
         · intro w'; go_simp; with_reducible rfl
         rotate_left
         · simp only [Act.put, List.setIfInBounds_toArray, List.set_cons_zero, List.set_cons_succ, i64_w, i32_w]; rfl)
      first
      | (refine pure_ (i := 18) (N := some 45) (v := undef) #[true, true, true, true, true, true, true, true, true, true, true, true, true, true, true, true, true, true, true, false, false, false, false, false] rfl rfl (by kernel_rfl) (fun _ _ _ h => h) (Or.inr ⟨by rfl, rfl⟩) (by simp only [Act.put, List.setIfInBounds_toArray, List.set_cons_zero, List.set_cons_succ, i64_w, i32_w]; rfl) ?_)
      | (refine take_ (i := 18) (N := some 45) (v := ?_) (a' := ?_) #[true, true, true, true, true, true, true, true, true, true, true, true, true, true, true, true, true, true, true, false, false, false, false, false] rfl rfl (by kernel_rfl) (fun _ _ _ h => h) (Or.inl ⟨by rfl, ?_⟩) hHeld ?_ ?_
         rotate_left
         · intro w' hh; have hg := Blks.hd (Blks.tl hh); have t8 := hg.c 8 rfl; have t9 := hg.c 9 rfl; have t10 := hg.c 10 rfl; have t11 := hg.c 11 rfl; have t12 := hg.c 12 rfl; clear hh hg; go_simp; with_reducible rfl
         rotate_left
         · simp only [Act.put, List.setIfInBounds_toArray, List.set_cons_zero, List.set_cons_succ, i64_w, i32_w]; rfl)
      first
      | (refine pure_ (i := 19) (N := some 46) (v := undef) #[true, true, true, true, true, true, true, true, true, true, true, true, true, true, true, true, true, true, true, true, false, false, false, false] rfl rfl (by kernel_rfl) (fun _ _ _ h => h) (Or.inr ⟨by rfl, rfl⟩) (by simp only [Act.put, List.setIfInBounds_toArray, List.set_cons_zero, List.set_cons_succ, i64_w, i32_w]; rfl) ?_
         obtain ⟨w9, hw⟩ : ∃ x, x = w8 := ⟨_, rfl⟩
         subst hw)
      | (refine one_ (i := 19) (N := some 46) #[true, true, true, true, true, true, true, true, true, true, true, true, true, true, true, true, true, true, true, true, false, false, false, false] rfl rfl (by kernel_rfl) (by decide) (fun K hK => ?_)
         refine goes_ Tryz.func149 (by kernel_rfl) rfl #[.agg #[.int .i64 uP.kind, .bool uP.is, .string uP.text, .slice AP nP cP, .slice BP mP dP]] (by rfl) rfl rfl (by (try simp only [List.map_toArray, List.map_cons, List.map_nil]); first | done | rfl) ?_
         refine (HL.out w8 _ _ HVP.out.1).mono ?_
         rintro e w9 ⟨rfl, hb⟩
         refine ⟨_, rfl, ?_⟩
         refine hK.out _ _ (hHeld.on hb) (fun hHeld' => ?_)
         clear hK K hHeld
         have hHeld := hHeld'
         clear hHeld'
         replace Ht := Lib.hid (Ht.out.up hb)
         replace Hu := Lib.hid (Hu.out.up hb)
         replace HM := Lib.hid (HM.out.on hb)
         replace HQ := Lib.hid (Nat.le_trans HQ.out hb.size)
         replace HVP := Lib.hid (HVP.out.up hb)
         replace HVI := Lib.hid (HVI.out.up hb)
         replace HK := Lib.hid (HK.out.on hb)
         replace HB := Lib.hid (HB.out.trans (hb.mono HB.out.size))
         clear hb
         refine norm_ (a' := ?_) ?_ ?_
         rotate_left
         · show Act.put _ (some 46) _ = _; simp only [Act.put, List.setIfInBounds_toArray, List.set_cons_zero, List.set_cons_succ, i64_w, i32_w]; rfl)
      first
      | (refine pure_ (i := 20) (N := some 47) (v := undef) #[true, true, true, true, true, true, true, true, true, true, true, true, true, true, true, true, true, true, true, true, true, false, false, false] rfl rfl (by kernel_rfl) (fun _ _ _ h => h) (Or.inr ⟨by rfl, rfl⟩) (by simp only [Act.put, List.setIfInBounds_toArray, List.set_cons_zero, List.set_cons_succ, i64_w, i32_w]; rfl) ?_)
      | (refine pure_ (i := 20) (N := some 47) (v := ?_) (a' := ?_) #[true, true, true, true, true, true, true, true, true, true, true, true, true, true, true, true, true, true, true, true, true, false, false, false] rfl rfl (by kernel_rfl) (fun _ _ _ h => h) (Or.inl ⟨by rfl, ?_⟩) ?_ ?_
         rotate_left
         · intro w'; go_simp; with_reducible rfl
         rotate_left
         · simp only [Act.put, List.setIfInBounds_toArray, List.set_cons_zero, List.set_cons_succ, i64_w, i32_w]; rfl)
      refine pure_ (i := 21) (N := some 48) (v := ?_) (a' := ?_) #[true, true, true, true, true, true, true, true, true, true, true, true, true, true, true, true, true, true, true, true, true, true, false, false] rfl rfl (by kernel_rfl) (fun _ _ _ h => h) (Or.inl ⟨by rfl, ?_⟩) ?_ ?_
      rotate_left
      · intro w'; go_simp; with_reducible rfl
      rotate_left
      · simp only [Act.put, List.setIfInBounds_toArray, List.set_cons_zero, List.set_cons_succ, i64_w, i32_w]; rfl
      refine last_ (i := 22) (N := none) #[true, true, true, true, true, true, true, true, true, true, true, true, true, true, true, true, true, true, true, true, true, true, true, false] rfl rfl (by kernel_rfl) (by decide) (fun K hK => ?_)
      refine store_fldK (by rfl) rfl 46 (.tmp 4) (.tmp 27) rfl (w.heap.size + 1 + 1) 0 (.agg #[.int .i64 2, .int .i64 0, .bool false, .string ⟨#[]⟩, .slice none 0 0, .slice none 0 0, .string u.text, .bool _, .int .i64 uP.kind, .bool uP.is, .string uP.text, .slice AP nP cP, .slice BP mP dP, .int .i64 0, .bool false, .string ⟨#[]⟩, .slice none 0 0, .slice none 0 0, .int .i64 0, .string ⟨#[]⟩]) [.int .i64 2, .int .i64 0, .bool false, .string ⟨#[]⟩, .slice none 0 0, .slice none 0 0, .string u.text, .bool _, .int .i64 uP.kind, .bool uP.is, .string uP.text, .slice AP nP cP, .slice BP mP dP, .int .i64 0, .bool false, .string ⟨#[]⟩, .slice none 0 0, .slice none 0 0, .int .i64 0, .string ⟨#[]⟩] (by rfl) (by rfl) rfl #[.int .i64 2, .int .i64 0, .bool false, .string ⟨#[]⟩, .slice none 0 0, .slice none 0 0, .string u.text, .bool _, .int .i64 uP.kind, .bool uP.is, .string uP.text, .slice AP nP cP, .slice BP mP dP, .int .i64 0, .bool false, .string ⟨#[]⟩, .slice none 0 0, .slice none 0 0, .int .i64 0, .string ⟨#[]⟩] (Blks.hd (Blks.tl HK.out)) (by kernel_rfl) (Nat.le_of_ble_eq_true rfl) (by simp [Value.oneCell']) rfl (fun w10 hS hbt hsz => hK.out _ _ ?_)
      clear hK K
      clear hHeld
      replace Ht := Lib.hid (Ht.out.butL hbt (by have := HGgI.out; omega))
      replace Hu := Lib.hid (Hu.out.butL hbt (by have := HGgI.out; omega))
      replace HM := Lib.hid (ML.but2 HM0.out HM.out hbt (by have := HGgI.out; omega))
      replace HQ := Lib.hid (Nat.le_trans HQ.out hbt.size)
      replace HVP := Lib.hid (HVP.out.but hbt (by have := HGgI.out; omega))
      replace HVI := Lib.hid (HVI.out.but hbt (by have := HGgI.out; omega))
      replace HK := Lib.hid (Blks.cons (BK.but (Blks.hd HK.out) hbt (by have := HGgI.out; omega)) (Blks.cons hS (Blks.cons (BK.but (Blks.hd (Blks.tl (Blks.tl HK.out))) hbt (by have := HGgI.out; omega)) (Blks.one (BK.but (Blks.hd (Blks.tl (Blks.tl (Blks.tl HK.out)))) hbt (by have := HGgI.out; omega))))))
      replace HB := Lib.hid (hbt.below HB.out (by have := HGgI.out; omega) HB.out.size)
      clear hbt hS hsz
      refine pure_ (i := 23) (N := some 5) (v := ?_) (a' := ?_) #[true, true, true, true, true, true, true, true, true, true, true, true, true, true, true, true, true, true, true, true, true, true, true, true] rfl rfl (by kernel_rfl) (fun _ _ _ h => h) (Or.inl ⟨by rfl, ?_⟩) ?_ ?_
      rotate_left
      · intro w'; go_simp; with_reducible rfl
      rotate_left
      · simp only [Act.put, List.setIfInBounds_toArray, List.set_cons_zero, List.set_cons_succ, i64_w, i32_w]; rfl
      refine done_ (by kernel_rfl) ?_
      go_wp2
      have hmm := HMM.out
      subst hmm
      have hbb := HBB.out
      subst hbb
      exact bodyPost_ret (results_row2 rfl _ _ (w.heap.size + 1 + 1) _ #[.int .i64 2, .int .i64 0, .bool false, .string ⟨#[]⟩, .slice none 0 0, .slice none 0 0, .string u.text, .bool _, .int .i64 uP.kind, .bool uP.is, .string uP.text, .slice AP nP cP, .slice BP mP dP, .int .i64 0, .bool false, .string ⟨#[]⟩, .slice none 0 0, .slice none 0 0, .int .i64 0, .string ⟨#[]⟩] _ rfl _ rfl (Blks.hd (Blks.tl HK.out)) Tryz.underlying46 rfl (by kernel_rfl)) rfl ⟨_, rfl, ⟨_, _, _, _, _, _, _, _, _, _, _, _, _, _, _, rfl, (by rw [HUI.out]; exact nul_VLF _ _), (VLF.le (B' := w.heap.size) HVP.out (by have := HGgI.out; omega)), (nul_VLF _ _)⟩, HB.out⟩)
  · skip
    clear HNI
    go_wp2_with fail
    have HGgI := Lib.hid ((Blks.hd HK.out).lt)
    have hb : Below w5.heap.size w5 (w5.alloc (.cells #[.int .i64 uI.kind, .bool uI.is, .string uI.text, .slice AI nI cI, .slice BI mI dI] 25)) := made_end' w5 _
    replace Ht := Lib.hid (Ht.out.up hb)
    replace Hu := Lib.hid (Hu.out.up hb)
    replace HM := Lib.hid (HM.out.on hb)
    replace HQ := Lib.hid (Nat.le_trans HQ.out hb.size)
    replace HVP := Lib.hid (HVP.out.up hb)
    replace HVI := Lib.hid (HVI.out.up hb)
    replace HK := Lib.hid (HK.out.on hb)
    replace HB := Lib.hid (HB.out.trans (hb.mono HB.out.size))
    have hX0 : BK (w5.alloc (.cells #[.int .i64 uI.kind, .bool uI.is, .string uI.text, .slice AI nI cI, .slice BI mI dI] 25)) (w5.heap.size) 25 #[.int .i64 uI.kind, .bool uI.is, .string uI.text, .slice AI nI cI, .slice BI mI dI] := BK.new w5 _ _
    replace HK := Lib.hid (Blks.cons hX0 HK.out)
    clear hb hX0
    generalize (w5.alloc (.cells #[.int .i64 uI.kind, .bool uI.is, .string uI.text, .slice AI nI cI, .slice BI mI dI] 25)) = w6 at *
    generalize w5.heap.size = gI at *
    have hb : Below w6.heap.size w6 w6.drew := (Below.refl _ _).drew
    refine start_ (n := 5) (S := Blks [⟨gI, 25, #[.int .i64 uI.kind, .bool uI.is, .string uI.text, .slice AI nI cI, .slice BI mI dI]⟩]) (ds := []) #[false, false, false, false, false] (by kernel_rfl) rfl rfl (Blks.on (Blks.one (Blks.hd HK.out)) hb) (fun hHeld => ?_)
    replace Ht := Lib.hid (Ht.out.up hb)
    replace Hu := Lib.hid (Hu.out.up hb)
    replace HM := Lib.hid (HM.out.on hb)
    replace HQ := Lib.hid (Nat.le_trans HQ.out hb.size)
    replace HVP := Lib.hid (HVP.out.up hb)
    replace HVI := Lib.hid (HVI.out.up hb)
    replace HK := Lib.hid (HK.out.on hb)
    replace HB := Lib.hid (HB.out.trans (hb.mono HB.out.size))
    clear hb
    generalize w6.drew = w7 at *
    refine take_ (i := 0) (N := some 24) (v := ?_) (a' := ?_) #[true, false, false, false, false] rfl rfl (by kernel_rfl) (fun _ _ _ h => h) (Or.inl ⟨by rfl, ?_⟩) hHeld ?_ ?_
    rotate_left
    · intro w' hh; have hg := Blks.hd hh; have t0 := hg.c 0 rfl; have t1 := hg.c 1 rfl; have t2 := hg.c 2 rfl; have t3 := hg.c 3 rfl; have t4 := hg.c 4 rfl; clear hh hg; go_simp; with_reducible rfl
    rotate_left
    · simp only [Act.put, List.setIfInBounds_toArray, List.set_cons_zero, List.set_cons_succ, i64_w, i32_w]; rfl
    refine pure_ (i := 1) (N := some 25) (v := ?_) (a' := ?_) #[true, true, false, false, false] rfl rfl (by kernel_rfl) (fun _ _ _ h => h) (Or.inl ⟨by rfl, ?_⟩) ?_ ?_
    rotate_left
    · intro w'; go_simp; with_reducible rfl
    rotate_left
    · simp only [Act.put, List.setIfInBounds_toArray, List.set_cons_zero, List.set_cons_succ, i64_w, i32_w]; rfl
    refine one_ (i := 2) (N := none) #[true, true, true, false, false] rfl rfl (by kernel_rfl) (by decide) (fun K hK => ?_)
    refine store_fldK (by rfl) rfl 3 (.tmp 25) (.const (.int .i64 1)) rfl (w.heap.size + 1 + 1) 0 (.int .i64 1) [.int .i64 1] (by rfl) (by rfl) rfl #[.int .i64 1, .int .i64 0, .bool false, .string ⟨#[]⟩, .slice none 0 0, .slice none 0 0, .string u.text, .bool _, .int .i64 uP.kind, .bool uP.is, .string uP.text, .slice AP nP cP, .slice BP mP dP, .int .i64 0, .bool false, .string ⟨#[]⟩, .slice none 0 0, .slice none 0 0, .int .i64 0, .string ⟨#[]⟩] (Blks.hd (Blks.tl HK.out)) (by kernel_rfl) (Nat.le_of_ble_eq_true rfl) (by simp [Value.oneCell']) rfl (fun w8 hS hbt hsz => hK.out _ _ (Blks.one (BK.but (Blks.hd hHeld) hbt (by have := HGgI.out; omega))) (fun hHeld' => ?_))
    clear hK K
    clear hHeld
    have hHeld := hHeld'
    clear hHeld'
    replace Ht := Lib.hid (Ht.out.butL hbt (by have := HGgI.out; omega))
    replace Hu := Lib.hid (Hu.out.butL hbt (by have := HGgI.out; omega))
    replace HM := Lib.hid (ML.but2 HM0.out HM.out hbt (by have := HGgI.out; omega))
    replace HQ := Lib.hid (Nat.le_trans HQ.out hbt.size)
    replace HVP := Lib.hid (HVP.out.but hbt (by have := HGgI.out; omega))
    replace HVI := Lib.hid (HVI.out.but hbt (by have := HGgI.out; omega))
    replace HK := Lib.hid (Blks.cons (BK.but (Blks.hd HK.out) hbt (by have := HGgI.out; omega)) (Blks.cons hS (Blks.cons (BK.but (Blks.hd (Blks.tl (Blks.tl HK.out))) hbt (by have := HGgI.out; omega)) (Blks.one (BK.but (Blks.hd (Blks.tl (Blks.tl (Blks.tl HK.out)))) hbt (by have := HGgI.out; omega))))))
    replace HB := Lib.hid (hbt.below HB.out (by have := HGgI.out; omega) HB.out.size)
    clear hbt hS hsz
    refine pure_ (i := 3) (N := some 26) (v := ?_) (a' := ?_) #[true, true, true, true, false] rfl rfl (by kernel_rfl) (fun _ _ _ h => h) (Or.inl ⟨by rfl, ?_⟩) ?_ ?_
    rotate_left
    · intro w'; go_simp; with_reducible rfl
    rotate_left
    · simp only [Act.put, List.setIfInBounds_toArray, List.set_cons_zero, List.set_cons_succ, i64_w, i32_w]; rfl
    refine one_ (i := 4) (N := none) #[true, true, true, true, true] rfl rfl (by kernel_rfl) (by decide) (fun K hK => ?_)
    refine store_fldK (by rfl) rfl 25 (.tmp 26) (.tmp 24) rfl (w.heap.size + 1 + 1) 1 (.agg #[.int .i64 uI.kind, .bool uI.is, .string uI.text, .slice AI nI cI, .slice BI mI dI]) [.int .i64 uI.kind, .bool uI.is, .string uI.text, .slice AI nI cI, .slice BI mI dI] (by rfl) (by rfl) rfl #[.int .i64 1, .int .i64 uI.kind, .bool uI.is, .string uI.text, .slice AI nI cI, .slice BI mI dI, .string u.text, .bool _, .int .i64 uP.kind, .bool uP.is, .string uP.text, .slice AP nP cP, .slice BP mP dP, .int .i64 0, .bool false, .string ⟨#[]⟩, .slice none 0 0, .slice none 0 0, .int .i64 0, .string ⟨#[]⟩] (Blks.hd (Blks.tl HK.out)) (by kernel_rfl) (Nat.le_of_ble_eq_true rfl) (by simp [Value.oneCell']) rfl (fun w9 hS hbt hsz => hK.out _ _ (Blks.one (BK.but (Blks.hd hHeld) hbt (by have := HGgI.out; omega))) (fun hHeld' => ?_))
    clear hK K
    clear hHeld
    have hHeld := hHeld'
    clear hHeld'
    replace Ht := Lib.hid (Ht.out.butL hbt (by have := HGgI.out; omega))
    replace Hu := Lib.hid (Hu.out.butL hbt (by have := HGgI.out; omega))
    replace HM := Lib.hid (ML.but2 HM0.out HM.out hbt (by have := HGgI.out; omega))
    replace HQ := Lib.hid (Nat.le_trans HQ.out hbt.size)
    replace HVP := Lib.hid (HVP.out.but hbt (by have := HGgI.out; omega))
    replace HVI := Lib.hid (HVI.out.but hbt (by have := HGgI.out; omega))
    replace HK := Lib.hid (Blks.cons (BK.but (Blks.hd HK.out) hbt (by have := HGgI.out; omega)) (Blks.cons hS (Blks.cons (BK.but (Blks.hd (Blks.tl (Blks.tl HK.out))) hbt (by have := HGgI.out; omega)) (Blks.one (BK.but (Blks.hd (Blks.tl (Blks.tl (Blks.tl HK.out)))) hbt (by have := HGgI.out; omega))))))
    replace HB := Lib.hid (hbt.below HB.out (by have := HGgI.out; omega) HB.out.size)
    clear hbt hS hsz
    refine done_ (by kernel_rfl) ?_
    go_wp2_with fail
    cases b3 <;> cases q <;> cases bP
    all_goals (
      have hb : Below w9.heap.size w9 w9.drew := (Below.refl _ _).drew
      refine start_ (n := 24) (S := Blks [⟨gI, 25, #[.int .i64 uI.kind, .bool uI.is, .string uI.text, .slice AI nI cI, .slice BI mI dI]⟩, ⟨w.heap.size + 1 + 1, 46, #[.int .i64 1, .int .i64 uI.kind, .bool uI.is, .string uI.text, .slice AI nI cI, .slice BI mI dI, .string u.text, .bool _, .int .i64 uP.kind, .bool uP.is, .string uP.text, .slice AP nP cP, .slice BP mP dP, .int .i64 0, .bool false, .string ⟨#[]⟩, .slice none 0 0, .slice none 0 0, .int .i64 0, .string ⟨#[]⟩]⟩, ⟨w.heap.size + 1, 25, #[.int .i64 u.kind, .bool u.is, .string u.text, .slice Au nu cu, .slice Bu mu du]⟩]) (ds := [22]) #[false, false, false, false, false, false, false, false, false, false, false, false, false, false, false, false, false, false, false, false, false, false, false, false] (by kernel_rfl) rfl rfl (Blks.on (Blks.cons (Blks.hd HK.out) (Blks.cons (Blks.hd (Blks.tl HK.out)) (Blks.one (Blks.hd (Blks.tl (Blks.tl HK.out)))))) hb) (fun hHeld => ?_)
      replace Ht := Lib.hid (Ht.out.up hb)
      replace Hu := Lib.hid (Hu.out.up hb)
      replace HM := Lib.hid (HM.out.on hb)
      replace HQ := Lib.hid (Nat.le_trans HQ.out hb.size)
      replace HVP := Lib.hid (HVP.out.up hb)
      replace HVI := Lib.hid (HVI.out.up hb)
      replace HK := Lib.hid (HK.out.on hb)
      replace HB := Lib.hid (HB.out.trans (hb.mono HB.out.size))
      clear hb
      generalize w9.drew = w10 at *
      refine take_ (i := 0) (N := some 27) (v := .agg #[.int .i64 1, .int .i64 uI.kind, .bool uI.is, .string uI.text, .slice AI nI cI, .slice BI mI dI, .string u.text, .bool _, .int .i64 uP.kind, .bool uP.is, .string uP.text, .slice AP nP cP, .slice BP mP dP, .int .i64 0, .bool false, .string ⟨#[]⟩, .slice none 0 0, .slice none 0 0, .int .i64 0, .string ⟨#[]⟩]) (a' := ?_) #[true, false, false, false, false, false, false, false, false, false, false, false, false, false, false, false, false, false, false, false, false, false, false, false] rfl rfl (by kernel_rfl) (fun _ _ _ h => h) (yields_row (by rfl) 46 (.tmp 4) rfl (w.heap.size + 1 + 1) (by rfl) 46 #[.int .i64 1, .int .i64 uI.kind, .bool uI.is, .string uI.text, .slice AI nI cI, .slice BI mI dI, .string u.text, .bool _, .int .i64 uP.kind, .bool uP.is, .string uP.text, .slice AP nP cP, .slice BP mP dP, .int .i64 0, .bool false, .string ⟨#[]⟩, .slice none 0 0, .slice none 0 0, .int .i64 0, .string ⟨#[]⟩] _ (fun w' hh => Blks.hd (Blks.tl hh)) Tryz.underlying46 rfl (by kernel_rfl)) hHeld ?_ ?_
      rotate_left
      · simp only [Act.put, List.setIfInBounds_toArray, List.set_cons_zero, List.set_cons_succ, i64_w, i32_w]; rfl
      refine pure_ (i := 1) (N := some 28) (v := ?_) (a' := ?_) #[true, true, false, false, false, false, false, false, false, false, false, false, false, false, false, false, false, false, false, false, false, false, false, false] rfl rfl (by kernel_rfl) (fun _ _ _ h => h) (Or.inl ⟨by rfl, ?_⟩) ?_ ?_
      rotate_left
      · intro w'; go_simp; with_reducible rfl
      rotate_left
      · simp only [Act.put, List.setIfInBounds_toArray, List.set_cons_zero, List.set_cons_succ, i64_w, i32_w]; rfl
      refine take_ (i := 2) (N := some 29) (v := ?_) (a' := ?_) #[true, true, true, false, false, false, false, false, false, false, false, false, false, false, false, false, false, false, false, false, false, false, false, false] rfl rfl (by kernel_rfl) (fun _ _ _ h => h) (Or.inl ⟨by rfl, ?_⟩) hHeld ?_ ?_
      rotate_left
      · intro w' hh; have hg := Blks.hd (Blks.tl (Blks.tl hh)); have t0 := hg.c 0 rfl; clear hh hg; go_simp; with_reducible rfl
      rotate_left
      · simp only [Act.put, List.setIfInBounds_toArray, List.set_cons_zero, List.set_cons_succ, i64_w, i32_w]; rfl
      refine pure_ (i := 3) (N := some 30) (v := ?_) (a' := ?_) #[true, true, true, true, false, false, false, false, false, false, false, false, false, false, false, false, false, false, false, false, false, false, false, false] rfl rfl (by kernel_rfl) (fun _ _ _ h => h) (Or.inl ⟨by rfl, ?_⟩) ?_ ?_
      rotate_left
      · intro w'; go_simp; with_reducible rfl
      rotate_left
      · simp only [Act.put, List.setIfInBounds_toArray, List.set_cons_zero, List.set_cons_succ, i64_w, i32_w]; rfl
      refine pure_ (i := 4) (N := some 31) (v := ?_) (a' := ?_) #[true, true, true, true, true, false, false, false, false, false, false, false, false, false, false, false, false, false, false, false, false, false, false, false] rfl rfl (by kernel_rfl) (fun _ _ _ h => h) (Or.inl ⟨by rfl, ?_⟩) ?_ ?_
      rotate_left
      · intro w'; go_simp; with_reducible rfl
      rotate_left
      · simp only [Act.put, List.setIfInBounds_toArray, List.set_cons_zero, List.set_cons_succ, i64_w, i32_w]; rfl
      first
      | (refine pure_ (i := 5) (N := some 32) (v := undef) #[true, true, true, true, true, true, false, false, false, false, false, false, false, false, false, false, false, false, false, false, false, false, false, false] rfl rfl (by kernel_rfl) (fun _ _ _ h => h) (Or.inr ⟨by rfl, rfl⟩) (by simp only [Act.put, List.setIfInBounds_toArray, List.set_cons_zero, List.set_cons_succ, i64_w, i32_w]; rfl) ?_)
      | (refine pure_ (i := 5) (N := some 32) (v := ?_) (a' := ?_) #[true, true, true, true, true, true, false, false, false, false, false, false, false, false, false, false, false, false, false, false, false, false, false, false] rfl rfl (by kernel_rfl) (fun _ _ _ h => h) (Or.inl ⟨by rfl, ?_⟩) ?_ ?_
         rotate_left
         · intro w'; go_simp; with_reducible rfl
         rotate_left
         · simp only [Act.put, List.setIfInBounds_toArray, List.set_cons_zero, List.set_cons_succ, i64_w, i32_w]; rfl)
      first
      | (refine pure_ (i := 6) (N := some 33) (v := undef) #[true, true, true, true, true, true, true, false, false, false, false, false, false, false, false, false, false, false, false, false, false, false, false, false] rfl rfl (by kernel_rfl) (fun _ _ _ h => h) (Or.inr ⟨by rfl, rfl⟩) (by simp only [Act.put, List.setIfInBounds_toArray, List.set_cons_zero, List.set_cons_succ, i64_w, i32_w]; rfl) ?_)
      | (refine pure_ (i := 6) (N := some 33) (v := ?_) (a' := ?_) #[true, true, true, true, true, true, true, false, false, false, false, false, false, false, false, false, false, false, false, false, false, false, false, false] rfl rfl (by kernel_rfl) (fun _ _ _ h => h) (Or.inl ⟨by rfl, ?_⟩) ?_ ?_
         rotate_left
         · intro w'; go_simp; with_reducible rfl
         rotate_left
         · simp only [Act.put, List.setIfInBounds_toArray, List.set_cons_zero, List.set_cons_succ, i64_w, i32_w]; rfl)
      first
      | (refine pure_ (i := 7) (N := some 34) (v := undef) #[true, true, true, true, true, true, true, true, false, false, false, false, false, false, false, false, false, false, false, false, false, false, false, false] rfl rfl (by kernel_rfl) (fun _ _ _ h => h) (Or.inr ⟨by rfl, rfl⟩) (by simp only [Act.put, List.setIfInBounds_toArray, List.set_cons_zero, List.set_cons_succ, i64_w, i32_w]; rfl) ?_)
      | (refine pure_ (i := 7) (N := some 34) (v := ?_) (a' := ?_) #[true, true, true, true, true, true, true, true, false, false, false, false, false, false, false, false, false, false, false, false, false, false, false, false] rfl rfl (by kernel_rfl) (fun _ _ _ h => h) (Or.inl ⟨by rfl, ?_⟩) ?_ ?_
         rotate_left
         · intro w'; go_simp; with_reducible rfl
         rotate_left
         · simp only [Act.put, List.setIfInBounds_toArray, List.set_cons_zero, List.set_cons_succ, i64_w, i32_w]; rfl)
      first
      | (refine pure_ (i := 8) (N := some 35) (v := undef) #[true, true, true, true, true, true, true, true, true, false, false, false, false, false, false, false, false, false, false, false, false, false, false, false] rfl rfl (by kernel_rfl) (fun _ _ _ h => h) (Or.inr ⟨by rfl, rfl⟩) (by simp only [Act.put, List.setIfInBounds_toArray, List.set_cons_zero, List.set_cons_succ, i64_w, i32_w]; rfl) ?_)
      | (refine take_ (i := 8) (N := some 35) (v := ?_) (a' := ?_) #[true, true, true, true, true, true, true, true, true, false, false, false, false, false, false, false, false, false, false, false, false, false, false, false] rfl rfl (by kernel_rfl) (fun _ _ _ h => h) (Or.inl ⟨by rfl, ?_⟩) hHeld ?_ ?_
         rotate_left
         · intro w' hh; have hg := Blks.hd hh; have t0 := hg.c 0 rfl; have t1 := hg.c 1 rfl; have t2 := hg.c 2 rfl; have t3 := hg.c 3 rfl; have t4 := hg.c 4 rfl; clear hh hg; go_simp; with_reducible rfl
         rotate_left
         · simp only [Act.put, List.setIfInBounds_toArray, List.set_cons_zero, List.set_cons_succ, i64_w, i32_w]; rfl)
      first
      | (refine pure_ (i := 9) (N := some 36) (v := undef) #[true, true, true, true, true, true, true, true, true, true, false, false, false, false, false, false, false, false, false, false, false, false, false, false] rfl rfl (by kernel_rfl) (fun _ _ _ h => h) (Or.inr ⟨by rfl, rfl⟩) (by simp only [Act.put, List.setIfInBounds_toArray, List.set_cons_zero, List.set_cons_succ, i64_w, i32_w]; rfl) ?_
         obtain ⟨w11, hw⟩ : ∃ x, x = w10 := ⟨_, rfl⟩
         subst hw)
      | (refine one_ (i := 9) (N := some 36) #[true, true, true, true, true, true, true, true, true, true, false, false, false, false, false, false, false, false, false, false, false, false, false, false] rfl rfl (by kernel_rfl) (by decide) (fun K hK => ?_)
         refine goes_ Tryz.func102 (by kernel_rfl) rfl #[.agg #[.int .i64 uI.kind, .bool uI.is, .string uI.text, .slice AI nI cI, .slice BI mI dI]] (by rfl) rfl rfl (by (try simp only [List.map_toArray, List.map_cons, List.map_nil]); first | done | rfl) ?_
         refine (HT.out w10 _ _ HVI.out.1 HM.out).mono ?_
         rintro e w11 ⟨rfl, hb⟩
         refine ⟨_, rfl, ?_⟩
         refine hK.out _ _ (hHeld.on hb) (fun hHeld' => ?_)
         clear hK K hHeld
         have hHeld := hHeld'
         clear hHeld'
         replace Ht := Lib.hid (Ht.out.up hb)
         replace Hu := Lib.hid (Hu.out.up hb)
         replace HM := Lib.hid (HM.out.on hb)
         replace HQ := Lib.hid (Nat.le_trans HQ.out hb.size)
         replace HVP := Lib.hid (HVP.out.up hb)
         replace HVI := Lib.hid (HVI.out.up hb)
         replace HK := Lib.hid (HK.out.on hb)
         replace HB := Lib.hid (HB.out.trans (hb.mono HB.out.size))
         clear hb
         refine norm_ (a' := ?_) ?_ ?_
         rotate_left
         · show Act.put _ (some 36) _ = _; simp only [Act.put, List.setIfInBounds_toArray, List.set_cons_zero, List.set_cons_succ, i64_w, i32_w]; rfl)
      first
      | (refine pure_ (i := 10) (N := some 37) (v := undef) #[true, true, true, true, true, true, true, true, true, true, true, false, false, false, false, false, false, false, false, false, false, false, false, false] rfl rfl (by kernel_rfl) (fun _ _ _ h => h) (Or.inr ⟨by rfl, rfl⟩) (by simp only [Act.put, List.setIfInBounds_toArray, List.set_cons_zero, List.set_cons_succ, i64_w, i32_w]; rfl) ?_)
      | (refine pure_ (i := 10) (N := some 37) (v := ?_) (a' := ?_) #[true, true, true, true, true, true, true, true, true, true, true, false, false, false, false, false, false, false, false, false, false, false, false, false] rfl rfl (by kernel_rfl) (fun _ _ _ h => h) (Or.inl ⟨by rfl, ?_⟩) ?_ ?_
         rotate_left
         · intro w'; go_simp; with_reducible rfl
         rotate_left
         · simp only [Act.put, List.setIfInBounds_toArray, List.set_cons_zero, List.set_cons_succ, i64_w, i32_w]; rfl)
      refine pure_ (i := 11) (N := some 38) (v := ?_) (a' := ?_) #[true, true, true, true, true, true, true, true, true, true, true, true, false, false, false, false, false, false, false, false, false, false, false, false] rfl rfl (by kernel_rfl) (fun _ _ _ h => h) (Or.inl ⟨by rfl, ?_⟩) ?_ ?_
      rotate_left
      · intro w'; go_simp; with_reducible rfl
      rotate_left
      · simp only [Act.put, List.setIfInBounds_toArray, List.set_cons_zero, List.set_cons_succ, i64_w, i32_w]; rfl
      refine pure_ (i := 12) (N := some 39) (v := ?_) (a' := ?_) #[true, true, true, true, true, true, true, true, true, true, true, true, true, false, false, false, false, false, false, false, false, false, false, false] rfl rfl (by kernel_rfl) (fun _ _ _ h => h) (Or.inl ⟨by rfl, ?_⟩) ?_ ?_
      rotate_left
      · intro w'; go_simp; with_reducible rfl
      rotate_left
      · simp only [Act.put, List.setIfInBounds_toArray, List.set_cons_zero, List.set_cons_succ, i64_w, i32_w]; rfl
      first
      | (refine pure_ (i := 13) (N := some 40) (v := undef) #[true, true, true, true, true, true, true, true, true, true, true, true, true, true, false, false, false, false, false, false, false, false, false, false] rfl rfl (by kernel_rfl) (fun _ _ _ h => h) (Or.inr ⟨by rfl, rfl⟩) (by simp only [Act.put, List.setIfInBounds_toArray, List.set_cons_zero, List.set_cons_succ, i64_w, i32_w]; rfl) ?_)
      | (refine pure_ (i := 13) (N := some 40) (v := ?_) (a' := ?_) #[true, true, true, true, true, true, true, true, true, true, true, true, true, true, false, false, false, false, false, false, false, false, false, false] rfl rfl (by kernel_rfl) (fun _ _ _ h => h) (Or.inl ⟨by rfl, ?_⟩) ?_ ?_
         rotate_left
         · intro w'; go_simp; with_reducible rfl
         rotate_left
         · simp only [Act.put, List.setIfInBounds_toArray, List.set_cons_zero, List.set_cons_succ, i64_w, i32_w]; rfl)
      first
      | (refine pure_ (i := 14) (N := some 41) (v := undef) #[true, true, true, true, true, true, true, true, true, true, true, true, true, true, true, false, false, false, false, false, false, false, false, false] rfl rfl (by kernel_rfl) (fun _ _ _ h => h) (Or.inr ⟨by rfl, rfl⟩) (by simp only [Act.put, List.setIfInBounds_toArray, List.set_cons_zero, List.set_cons_succ, i64_w, i32_w]; rfl) ?_)
      | (refine take_ (i := 14) (N := some 41) (v := ?_) (a' := ?_) #[true, true, true, true, true, true, true, true, true, true, true, true, true, true, true, false, false, false, false, false, false, false, false, false] rfl rfl (by kernel_rfl) (fun _ _ _ h => h) (Or.inl ⟨by rfl, ?_⟩) hHeld ?_ ?_
         rotate_left
         · intro w' hh; have hg := Blks.hd (Blks.tl hh); have t7 := hg.c 7 rfl; clear hh hg; go_simp; with_reducible rfl
         rotate_left
         · simp only [Act.put, List.setIfInBounds_toArray, List.set_cons_zero, List.set_cons_succ, i64_w, i32_w]; rfl)
      first
      | (refine pure_ (i := 15) (N := some 42) (v := undef) #[true, true, true, true, true, true, true, true, true, true, true, true, true, true, true, true, false, false, false, false, false, false, false, false] rfl rfl (by kernel_rfl) (fun _ _ _ h => h) (Or.inr ⟨by rfl, rfl⟩) (by simp only [Act.put, List.setIfInBounds_toArray, List.set_cons_zero, List.set_cons_succ, i64_w, i32_w]; rfl) ?_)
      | (refine pure_ (i := 15) (N := some 42) (v := ?_) (a' := ?_) #[true, true, true, true, true, true, true, true, true, true, true, true, true, true, true, true, false, false, false, false, false, false, false, false] rfl rfl (by kernel_rfl) (fun _ _ _ h => h) (Or.inl ⟨by rfl, ?_⟩) ?_ ?_
         rotate_left
         · intro w'; go_simp; with_reducible rfl
         rotate_left
         · simp only [Act.put, List.setIfInBounds_toArray, List.set_cons_zero, List.set_cons_succ, i64_w, i32_w]; rfl)
      first
      | (refine pure_ (i := 16) (N := some 43) (v := undef) #[true, true, true, true, true, true, true, true, true, true, true, true, true, true, true, true, true, false, false, false, false, false, false, false] rfl rfl (by kernel_rfl) (fun _ _ _ h => h) (Or.inr ⟨by rfl, rfl⟩) (by simp only [Act.put, List.setIfInBounds_toArray, List.set_cons_zero, List.set_cons_succ, i64_w, i32_w]; rfl) ?_)
      | (refine pure_ (i := 16) (N := some 43) (v := ?_) (a' := ?_) #[true, true, true, true, true, true, true, true, true, true, true, true, true, true, true, true, true, false, false, false, false, false, false, false] rfl rfl (by kernel_rfl) (fun _ _ _ h => h) (Or.inl ⟨by rfl, ?_⟩) ?_ ?_
         rotate_left
         · intro w'; go_simp; with_reducible rfl
         rotate_left
         · simp only [Act.put, List.setIfInBounds_toArray, List.set_cons_zero, List.set_cons_succ, i64_w, i32_w]; rfl)
      first
      | (refine pure_ (i := 17) (N := some 44) (v := undef) #[true, true, true, true, true, true, true, true, true, true, true, true, true, true, true, true, true, true, false, false, false, false, false, false] rfl rfl (by kernel_rfl) (fun _ _ _ h => h) (Or.inr ⟨by rfl, rfl⟩) (by simp only [Act.put, List.setIfInBounds_toArray, List.set_cons_zero, List.set_cons_succ, i64_w, i32_w]; rfl) ?_)
      | (refine pure_ (i := 17) (N := some 44) (v := ?_) (a' := ?_) #[true, true, true, true, true, true, true, true, true, true, true, true, true, true, true, true, true, true, false, false, false, false, false, false] rfl rfl (by kernel_rfl) (fun _ _ _ h => h) (Or.inl ⟨by rfl, ?_⟩) ?_ ?_
         rotate_left
         · intro w'; go_simp; with_reducible rfl
         rotate_left
         · simp only [Act.put, List.setIfInBounds_toArray, List.set_cons_zero, List.set_cons_succ, i64_w, i32_w]; rfl)
      first
      | (refine pure_ (i := 18) (N := some 45) (v := undef) #[true, true, true, true, true, true, true, true, true, true, true, true, true, true, true, true, true, true, true, false, false, false, false, false] rfl rfl (by kernel_rfl) (fun _ _ _ h => h) (Or.inr ⟨by rfl, rfl⟩) (by simp only [Act.put, List.setIfInBounds_toArray, List.set_cons_zero, List.set_cons_succ, i64_w, i32_w]; rfl) ?_)
      | (refine take_ (i := 18) (N := some 45) (v := ?_) (a' := ?_) #[true, true, true, true, true, true, true, true, true, true, true, true, true, true, true, true, true, true, true, false, false, false, false, false] rfl rfl (by kernel_rfl) (fun _ _ _ h => h) (Or.inl ⟨by rfl, ?_⟩) hHeld ?_ ?_
         rotate_left
         · intro w' hh; have hg := Blks.hd (Blks.tl hh); have t8 := hg.c 8 rfl; have t9 := hg.c 9 rfl; have t10 := hg.c 10 rfl; have t11 := hg.c 11 rfl; have t12 := hg.c 12 rfl; clear hh hg; go_simp; with_reducible rfl
         rotate_left
         · simp only [Act.put, List.setIfInBounds_toArray, List.set_cons_zero, List.set_cons_succ, i64_w, i32_w]; rfl)
      first
      | (refine pure_ (i := 19) (N := some 46) (v := undef) #[true, true, true, true, true, true, true, true, true, true, true, true, true, true, true, true, true, true, true, true, false, false, false, false] rfl rfl (by kernel_rfl) (fun _ _ _ h => h) (Or.inr ⟨by rfl, rfl⟩) (by simp only [Act.put, List.setIfInBounds_toArray, List.set_cons_zero, List.set_cons_succ, i64_w, i32_w]; rfl) ?_
         obtain ⟨w12, hw⟩ : ∃ x, x = w11 := ⟨_, rfl⟩
         subst hw)
      | (refine one_ (i := 19) (N := some 46) #[true, true, true, true, true, true, true, true, true, true, true, true, true, true, true, true, true, true, true, true, false, false, false, false] rfl rfl (by kernel_rfl) (by decide) (fun K hK => ?_)
         refine goes_ Tryz.func149 (by kernel_rfl) rfl #[.agg #[.int .i64 uP.kind, .bool uP.is, .string uP.text, .slice AP nP cP, .slice BP mP dP]] (by rfl) rfl rfl (by (try simp only [List.map_toArray, List.map_cons, List.map_nil]); first | done | rfl) ?_
         refine (HL.out w11 _ _ HVP.out.1).mono ?_
         rintro e w12 ⟨rfl, hb⟩
         refine ⟨_, rfl, ?_⟩
         refine hK.out _ _ (hHeld.on hb) (fun hHeld' => ?_)
         clear hK K hHeld
         have hHeld := hHeld'
         clear hHeld'
         replace Ht := Lib.hid (Ht.out.up hb)
         replace Hu := Lib.hid (Hu.out.up hb)
         replace HM := Lib.hid (HM.out.on hb)
         replace HQ := Lib.hid (Nat.le_trans HQ.out hb.size)
         replace HVP := Lib.hid (HVP.out.up hb)
         replace HVI := Lib.hid (HVI.out.up hb)
         replace HK := Lib.hid (HK.out.on hb)
         replace HB := Lib.hid (HB.out.trans (hb.mono HB.out.size))
         clear hb
         refine norm_ (a' := ?_) ?_ ?_
         rotate_left
         · show Act.put _ (some 46) _ = _; simp only [Act.put, List.setIfInBounds_toArray, List.set_cons_zero, List.set_cons_succ, i64_w, i32_w]; rfl)
      first
      | (refine pure_ (i := 20) (N := some 47) (v := undef) #[true, true, true, true, true, true, true, true, true, true, true, true, true, true, true, true, true, true, true, true, true, false, false, false] rfl rfl (by kernel_rfl) (fun _ _ _ h => h) (Or.inr ⟨by rfl, rfl⟩) (by simp only [Act.put, List.setIfInBounds_toArray, List.set_cons_zero, List.set_cons_succ, i64_w, i32_w]; rfl) ?_)
      | (refine pure_ (i := 20) (N := some 47) (v := ?_) (a' := ?_) #[true, true, true, true, true, true, true, true, true, true, true, true, true, true, true, true, true, true, true, true, true, false, false, false] rfl rfl (by kernel_rfl) (fun _ _ _ h => h) (Or.inl ⟨by rfl, ?_⟩) ?_ ?_
         rotate_left
         · intro w'; go_simp; with_reducible rfl
         rotate_left
         · simp only [Act.put, List.setIfInBounds_toArray, List.set_cons_zero, List.set_cons_succ, i64_w, i32_w]; rfl)
      refine pure_ (i := 21) (N := some 48) (v := ?_) (a' := ?_) #[true, true, true, true, true, true, true, true, true, true, true, true, true, true, true, true, true, true, true, true, true, true, false, false] rfl rfl (by kernel_rfl) (fun _ _ _ h => h) (Or.inl ⟨by rfl, ?_⟩) ?_ ?_
      rotate_left
      · intro w'; go_simp; with_reducible rfl
      rotate_left
      · simp only [Act.put, List.setIfInBounds_toArray, List.set_cons_zero, List.set_cons_succ, i64_w, i32_w]; rfl
      refine last_ (i := 22) (N := none) #[true, true, true, true, true, true, true, true, true, true, true, true, true, true, true, true, true, true, true, true, true, true, true, false] rfl rfl (by kernel_rfl) (by decide) (fun K hK => ?_)
      refine store_fldK (by rfl) rfl 46 (.tmp 4) (.tmp 27) rfl (w.heap.size + 1 + 1) 0 (.agg #[.int .i64 1, .int .i64 uI.kind, .bool uI.is, .string uI.text, .slice AI nI cI, .slice BI mI dI, .string u.text, .bool _, .int .i64 uP.kind, .bool uP.is, .string uP.text, .slice AP nP cP, .slice BP mP dP, .int .i64 0, .bool false, .string ⟨#[]⟩, .slice none 0 0, .slice none 0 0, .int .i64 0, .string ⟨#[]⟩]) [.int .i64 1, .int .i64 uI.kind, .bool uI.is, .string uI.text, .slice AI nI cI, .slice BI mI dI, .string u.text, .bool _, .int .i64 uP.kind, .bool uP.is, .string uP.text, .slice AP nP cP, .slice BP mP dP, .int .i64 0, .bool false, .string ⟨#[]⟩, .slice none 0 0, .slice none 0 0, .int .i64 0, .string ⟨#[]⟩] (by rfl) (by rfl) rfl #[.int .i64 1, .int .i64 uI.kind, .bool uI.is, .string uI.text, .slice AI nI cI, .slice BI mI dI, .string u.text, .bool _, .int .i64 uP.kind, .bool uP.is, .string uP.text, .slice AP nP cP, .slice BP mP dP, .int .i64 0, .bool false, .string ⟨#[]⟩, .slice none 0 0, .slice none 0 0, .int .i64 0, .string ⟨#[]⟩] (Blks.hd (Blks.tl HK.out)) (by kernel_rfl) (Nat.le_of_ble_eq_true rfl) (by simp [Value.oneCell']) rfl (fun w13 hS hbt hsz => hK.out _ _ ?_)
      clear hK K
      clear hHeld
      replace Ht := Lib.hid (Ht.out.butL hbt (by have := HGgI.out; omega))
      replace Hu := Lib.hid (Hu.out.butL hbt (by have := HGgI.out; omega))
      replace HM := Lib.hid (ML.but2 HM0.out HM.out hbt (by have := HGgI.out; omega))
      replace HQ := Lib.hid (Nat.le_trans HQ.out hbt.size)
      replace HVP := Lib.hid (HVP.out.but hbt (by have := HGgI.out; omega))
      replace HVI := Lib.hid (HVI.out.but hbt (by have := HGgI.out; omega))
      replace HK := Lib.hid (Blks.cons (BK.but (Blks.hd HK.out) hbt (by have := HGgI.out; omega)) (Blks.cons hS (Blks.cons (BK.but (Blks.hd (Blks.tl (Blks.tl HK.out))) hbt (by have := HGgI.out; omega)) (Blks.one (BK.but (Blks.hd (Blks.tl (Blks.tl (Blks.tl HK.out)))) hbt (by have := HGgI.out; omega))))))
      replace HB := Lib.hid (hbt.below HB.out (by have := HGgI.out; omega) HB.out.size)
      clear hbt hS hsz
      refine pure_ (i := 23) (N := some 5) (v := ?_) (a' := ?_) #[true, true, true, true, true, true, true, true, true, true, true, true, true, true, true, true, true, true, true, true, true, true, true, true] rfl rfl (by kernel_rfl) (fun _ _ _ h => h) (Or.inl ⟨by rfl, ?_⟩) ?_ ?_
      rotate_left
      · intro w'; go_simp; with_reducible rfl
      rotate_left
      · simp only [Act.put, List.setIfInBounds_toArray, List.set_cons_zero, List.set_cons_succ, i64_w, i32_w]; rfl
      refine done_ (by kernel_rfl) ?_
      go_wp2
      have hmm := HMM.out
      subst hmm
      have hbb := HBB.out
      subst hbb
      exact bodyPost_ret (results_row2 rfl _ _ (w.heap.size + 1 + 1) _ #[.int .i64 1, .int .i64 uI.kind, .bool uI.is, .string uI.text, .slice AI nI cI, .slice BI mI dI, .string u.text, .bool _, .int .i64 uP.kind, .bool uP.is, .string uP.text, .slice AP nP cP, .slice BP mP dP, .int .i64 0, .bool false, .string ⟨#[]⟩, .slice none 0 0, .slice none 0 0, .int .i64 0, .string ⟨#[]⟩] _ rfl _ rfl (Blks.hd (Blks.tl HK.out)) Tryz.underlying46 rfl (by kernel_rfl)) rfl ⟨_, rfl, ⟨_, _, _, _, _, _, _, _, _, _, _, _, _, _, _, rfl, (VLF.le (B' := w.heap.size) HVI.out (by have := HGgI.out; omega)), (VLF.le (B' := w.heap.size) HVP.out (by have := HGgI.out; omega)), (nul_VLF _ _)⟩, HB.out⟩)
end Go.Proofs.YtfploakafbnigaaGreatDoor
