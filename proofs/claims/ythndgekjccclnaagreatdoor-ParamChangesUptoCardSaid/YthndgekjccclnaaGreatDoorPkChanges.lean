/-
  ParamChanges: its walk, its row and its card: for every input of bulk at most 1048576 the statement returns true; its argument reads as it did.
-/
import Derived.Test.YthndgekjccclnaaGreatDoorPkParC
import Derived.Test.YthndgekjccclnaaGreatDoorPkValA
import Derived.Test.YthndgekjccclnaaGreatDoorPkParA
import Derived.Test.YthndgekjccclnaaGreatDoorPkValB
import Derived.Test.YthndgekjccclnaaGreatDoorPkRow
import Derived.ShutString
import Derived.ChangeMaps5
namespace Go.Proofs.YthndgekjccclnaaGreatDoor
open Go.RowKit Val
set_option linter.unusedVariables false
set_option linter.unusedSimpArgs false
theorem changes_tuple (t : VT) : ∃ (a : ByteArray) (n : Int) (l : List VT.Ed) (er : Int), (∀ w e w', ChangeP t w e w' → ∃ A cap, e = .returned (.tuple #[.string a, .int .i64 n, .slice A l.length cap, .int .i64 er]) ∧ ES w' (New w w') A l ∧ Below w.heap.size w w') ∧ l.length ≤ 32 := by
  cases h : t.changeOk
  · refine ⟨⟨#[]⟩, 0, [], 130, fun w e w' hc => ?_, by simp⟩
    obtain ⟨hb, hc | hc⟩ := hc
    · rw [h] at hc; cases hc.1
    · exact ⟨none, 0, hc.2, .inl rfl, hb⟩
  · refine ⟨t.uri, t.doc.wholeN VT.versionN, t.chg.edits t.chg.n, 0, fun w e w' hc => ?_, ?_⟩
    · obtain ⟨hb, hc | hc⟩ := hc
      · obtain ⟨-, A, cap, e1, h1⟩ := hc
        exact ⟨A, cap, e1, h1, hb⟩
      · rw [h] at hc; cases hc.1
    · rw [VT.edits_length]
      unfold VT.changeOk VT.changeOk1 at h
      simp only [Bool.and_eq_true, decide_eq_true_eq] at h
      exact h.1.2
set_option maxRecDepth 100000 in
set_option maxHeartbeats 8000000 in
theorem changes_any (t : VT) (w : World) (S : Nat → Prop) (v : Value) (h : VAL w S t v) (hS : ∀ b, S b → b < w.heap.size) (hM : ML w) (hbk : t.bulk ≤ 999999900) :
    Calls Tryz.prog 5 #[v] w fun e w' => e = .returned (.bool true) ∧ Below w.heap.size w w' := by
  have HB := Lib.hid (Below.refl w.heap.size w)
  have HQ : Hid (0 ≤ w.heap.size) := Lib.hid (Nat.zero_le _)
  have HM := Lib.hid hM
  have HK := Lib.hid hbk
  obtain ⟨kv, iv, xv, Av, nv, cv, Bv, mv, dv, rfl⟩ := h.shape
  have Hv : Hid (VLV (zNew 0) t w _) := Lib.hid (VAL.mono (fun b hb => ⟨Nat.zero_le _, hS b hb⟩) h)
  clear hM hbk h hS
  go_enter Tryz.func5, Tryz.ntmps5
  go_wp2_with fail
  have Hb0 := BX.new (w) (.int .i64 kv) (.bool iv) (.string xv) (.slice Av nv cv) (.slice Bv mv dv)
  have hb0 : Below (w).heap.size (w) ((w).alloc (.cells #[.int .i64 kv, .bool iv, .string xv, .slice Av nv cv, .slice Bv mv dv] 30)) := (Below.refl _ _).alloc (Nat.le_refl _) _
  replace HM := Lib.hid (HM.out.on hb0)
  replace Hv := Lib.hid (Hv.out.up hb0)
  replace HB := Lib.hid (HB.out.trans (hb0.mono HB.out.size))
  replace HQ := Lib.hid (Nat.le_trans HQ.out hb0.size)
  replace Hb0 := Lib.hid Hb0
  clear hb0
  have HV := VSV_new (z := zNew (0)) [t] ((w).alloc (.cells #[.int .i64 kv, .bool iv, .string xv, .slice Av nv cv, .slice Bv mv dv] 30)) #[.int .i64 kv, .bool iv, .string xv, .slice Av nv cv, .slice Bv mv dv] 30 1 (VR.cons Hv.out (VR.none _ _)) (zNew_alloc HQ.out)
  rw [show ((w).alloc (.cells #[.int .i64 kv, .bool iv, .string xv, .slice Av nv cv, .slice Bv mv dv] 30)).heap.size = w.heap.size + 1 by simp] at HV
  have hb1 : Below ((w).alloc (.cells #[.int .i64 kv, .bool iv, .string xv, .slice Av nv cv, .slice Bv mv dv] 30)).heap.size ((w).alloc (.cells #[.int .i64 kv, .bool iv, .string xv, .slice Av nv cv, .slice Bv mv dv] 30)) (((w).alloc (.cells #[.int .i64 kv, .bool iv, .string xv, .slice Av nv cv, .slice Bv mv dv] 30)).alloc (.cells #[.int .i64 kv, .bool iv, .string xv, .slice Av nv cv, .slice Bv mv dv] 30)) := (Below.refl _ _).alloc (Nat.le_refl _) _
  replace HM := Lib.hid (HM.out.on hb1)
  replace Hv := Lib.hid (Hv.out.up hb1)
  replace Hb0 := Lib.hid (Hb0.out.on hb1)
  replace HB := Lib.hid (HB.out.trans (hb1.mono HB.out.size))
  replace HQ := Lib.hid (Nat.le_trans HQ.out hb1.size)
  replace HV := Lib.hid HV
  clear hb1
  generalize (Value.slice (some ⟨w.heap.size + 1, 0, none⟩) 1 1) = sV at *
  generalize (((w).alloc (.cells #[.int .i64 kv, .bool iv, .string xv, .slice Av nv cv, .slice Bv mv dv] 30)).alloc (.cells #[.int .i64 kv, .bool iv, .string xv, .slice Av nv cv, .slice Bv mv dv] 30)) = w1 at *
  obtain ⟨VA, vc, rfl, hV⟩ := HV.out
  refine (DeepList_any 1 _ w1 _ VA vc hV (Zone.lt _ _) (by omega) (fun j hj => by have := HK.out; rw [show j = 0 by omega]; show t.bulk ≤ _; omega)).mono ?_
  clear hV
  clear HV
  rintro e w2 ⟨⟨bb, rfl⟩, hb⟩
  replace HM := Lib.hid (HM.out.on hb)
  replace Hv := Lib.hid (Hv.out.up hb)
  replace Hb0 := Lib.hid (Hb0.out.on hb)
  replace HB := Lib.hid (HB.out.trans (hb.mono HB.out.size))
  replace HQ := Lib.hid (Nat.le_trans HQ.out hb.size)
  clear hb
  cases bb
  rotate_left
  · skip
    go_wp2_with fail
    refine (awake_any w2 HM.out).mono ?_
    rintro e w3 ⟨rfl, hb⟩
    replace HM := Lib.hid (HM.out.on hb)
    replace Hv := Lib.hid (Hv.out.up hb)
    replace Hb0 := Lib.hid (Hb0.out.on hb)
    replace HB := Lib.hid (HB.out.trans (hb.mono HB.out.size))
    replace HQ := Lib.hid (Nat.le_trans HQ.out hb.size)
    clear hb
    go_wp2
    go_ret
    exact ⟨rfl, HB.out⟩
  have hg := Hb0.out
  have y0 := hg.c0
  have y1 := hg.c1
  have y2 := hg.c2
  have y3 := hg.c3
  have y4 := hg.c4
  clear hg
  go_wp2_with fail
  clear y0 y1 y2 y3 y4
  refine (refCopy_any t w2 _ _ Hv.out (Zone.lt _ _) (by have := HK.out; omega)).mono ?_
  rintro e w3 ⟨v', rfl, hv', hb⟩
  replace HM := Lib.hid (HM.out.on hb)
  replace Hv := Lib.hid (Hv.out.up hb)
  replace Hb0 := Lib.hid (Hb0.out.on hb)
  replace HB := Lib.hid (HB.out.trans (hb.mono HB.out.size))
  replace HQ := Lib.hid (Nat.le_trans HQ.out hb.size)
  clear hb
  obtain ⟨k17, i17, x17, A17, n17, c17, B17, m17, d17, rfl⟩ := hv'.shape
  have H17 : Hid (VLV (zNew 0) t w3 _) := Lib.hid (VAL.mono (fun b hb => ⟨Nat.zero_le _, hb.2⟩) hv')
  clear hv'
  go_wp2_with fail
  have Hb3 := BX.new (w3) (.int .i64 k17) (.bool i17) (.string x17) (.slice A17 n17 c17) (.slice B17 m17 d17)
  have hb0 : Below (w3).heap.size (w3) ((w3).alloc (.cells #[.int .i64 k17, .bool i17, .string x17, .slice A17 n17 c17, .slice B17 m17 d17] 30)) := (Below.refl _ _).alloc (Nat.le_refl _) _
  replace HM := Lib.hid (HM.out.on hb0)
  replace Hv := Lib.hid (Hv.out.up hb0)
  replace Hb0 := Lib.hid (Hb0.out.on hb0)
  replace H17 := Lib.hid (H17.out.up hb0)
  replace HB := Lib.hid (HB.out.trans (hb0.mono HB.out.size))
  replace HQ := Lib.hid (Nat.le_trans HQ.out hb0.size)
  replace Hb3 := Lib.hid Hb3
  clear hb0
  generalize ((w3).alloc (.cells #[.int .i64 k17, .bool i17, .string x17, .slice A17 n17 c17, .slice B17 m17 d17] 30)) = w4 at *
  obtain ⟨ca, cn, l, er, hu, hl⟩ := changes_tuple t
  have HU := Lib.hid hu
  have HL := Lib.hid hl
  clear hu hl
  refine (Change_any t w4 _ _ H17.out (Zone.lt _ _) HM.out (by have := HK.out; omega)).mono ?_
  rintro e w5 hC
  obtain ⟨E1, ec1, rfl, hE, hb⟩ := HU.out _ _ _ hC
  clear hC
  replace HM := Lib.hid (HM.out.on hb)
  replace Hv := Lib.hid (Hv.out.up hb)
  replace Hb0 := Lib.hid (Hb0.out.on hb)
  replace H17 := Lib.hid (H17.out.up hb)
  replace Hb3 := Lib.hid (Hb3.out.on hb)
  replace HB := Lib.hid (HB.out.trans (hb.mono HB.out.size))
  replace HQ := Lib.hid (Nat.le_trans HQ.out hb.size)
  clear hb
  have HE1 : Hid (EZ 0 l E1 w5) := Lib.hid (ES.same hE (fun _ _ => rfl) (fun b hb => ⟨Nat.zero_le _, hb.2⟩))
  clear hE
  have hg := Hb0.out
  have y0 := hg.c0
  have y1 := hg.c1
  have y2 := hg.c2
  have y3 := hg.c3
  have y4 := hg.c4
  clear hg
  go_wp2_with fail
  clear y0 y1 y2 y3 y4
  refine (refChange_any t w5 _ _ Hv.out (Zone.lt _ _) (by have := HK.out; omega)).mono ?_
  rintro e w6 hC
  obtain ⟨E2, ec2, rfl, hE, hb⟩ := HU.out _ _ _ hC
  clear hC
  replace HM := Lib.hid (HM.out.on hb)
  replace Hv := Lib.hid (Hv.out.up hb)
  replace Hb0 := Lib.hid (Hb0.out.on hb)
  replace H17 := Lib.hid (H17.out.up hb)
  replace Hb3 := Lib.hid (Hb3.out.on hb)
  replace HE1 := Lib.hid (HE1.out.up hb)
  replace HB := Lib.hid (HB.out.trans (hb.mono HB.out.size))
  replace HQ := Lib.hid (Nat.le_trans HQ.out hb.size)
  clear hb
  have HE2 : Hid (EZ 0 l E2 w6) := Lib.hid (ES.same hE (fun _ _ => rfl) (fun b hb => ⟨Nat.zero_le _, hb.2⟩))
  clear hE
  go_wp2_with fail
  refine (SameEdits_true E1 E2 ec1 ec2 _ _ l w6 HE1.out HE2.out (Nat.le_trans HL.out (by omega))).mono ?_
  rintro e _ ⟨rfl, q, rfl⟩
  have hb := below_drewN (Below.refl w6.heap.size w6) q
  replace HM := Lib.hid (HM.out.on hb)
  replace Hv := Lib.hid (Hv.out.up hb)
  replace Hb0 := Lib.hid (Hb0.out.on hb)
  replace H17 := Lib.hid (H17.out.up hb)
  replace Hb3 := Lib.hid (Hb3.out.on hb)
  replace HE1 := Lib.hid (HE1.out.up hb)
  replace HE2 := Lib.hid (HE2.out.up hb)
  replace HB := Lib.hid (HB.out.trans (hb.mono HB.out.size))
  replace HQ := Lib.hid (Nat.le_trans HQ.out hb.size)
  clear hb
  generalize w6.drewN q = w7 at *
  have hg := Hb3.out
  have y0 := hg.c0
  have y1 := hg.c1
  have y2 := hg.c2
  have y3 := hg.c3
  have y4 := hg.c4
  clear hg
  have hg := Hb0.out
  have z0 := hg.c0
  have z1 := hg.c1
  have z2 := hg.c2
  have z3 := hg.c3
  have z4 := hg.c4
  clear hg
  go_wp2_with fail
  clear y0 y1 y2 y3 y4 z0 z1 z2 z3 z4
  have hC := refEqual_any t t w7 _ _ _ _ H17.out Hv.out (Zone.lt _ _) (Zone.lt _ _) (by have := HK.out; omega) (by have := HK.out; omega)
  rw [VT.eqv_refl] at hC
  refine hC.mono ?_
  clear hC
  rintro e w8 ⟨rfl, hb⟩
  replace HM := Lib.hid (HM.out.on hb)
  replace Hv := Lib.hid (Hv.out.up hb)
  replace Hb0 := Lib.hid (Hb0.out.on hb)
  replace H17 := Lib.hid (H17.out.up hb)
  replace Hb3 := Lib.hid (Hb3.out.on hb)
  replace HE1 := Lib.hid (HE1.out.up hb)
  replace HE2 := Lib.hid (HE2.out.up hb)
  replace HB := Lib.hid (HB.out.trans (hb.mono HB.out.size))
  replace HQ := Lib.hid (Nat.le_trans HQ.out hb.size)
  clear hb
  go_wp2_with fail
  refine (awake_any w8 HM.out).mono ?_
  rintro e w9 ⟨rfl, hb⟩
  replace HM := Lib.hid (HM.out.on hb)
  replace Hv := Lib.hid (Hv.out.up hb)
  replace Hb0 := Lib.hid (Hb0.out.on hb)
  replace H17 := Lib.hid (H17.out.up hb)
  replace Hb3 := Lib.hid (Hb3.out.on hb)
  replace HE1 := Lib.hid (HE1.out.up hb)
  replace HE2 := Lib.hid (HE2.out.up hb)
  replace HB := Lib.hid (HB.out.trans (hb.mono HB.out.size))
  replace HQ := Lib.hid (Nat.le_trans HQ.out hb.size)
  clear hb
  go_wp2
  go_ret
  exact ⟨rfl, HB.out⟩
end Go.Proofs.YthndgekjccclnaaGreatDoor
namespace Go.Proofs.YthndgekjccclnaaGreatDoor.paramChanges
open Go.ChangeShapes Go.WideShapes Go.ChangeAt Go.RowKit Go.Proofs.YthndgekjccclnaaGreatDoor.rowkit
open Go.ChangeMaps (open_string shut_string)
set_option linter.unusedVariables false
set_option linter.unusedSimpArgs false

theorem reads (os : Os) {H : Type} (enc : TypeId × Value → H) : ∃ places, DataW.whole enc Tryz.prog ((World.laidAll Tryz.prog os Rows.paramChangesUptoRow.laid).forCall (fun _ _ => 0) ⟨#[], #[.agg #[.int .i64 0, .bool false, .string .empty, .slice none 0 0, .slice none 0 0]], []⟩).memory Tryz.f5.params.toList Rows.paramChangesSpec.vars false #[Value.agg #[.int .i64 0, .bool false, .string .empty, .slice none 0 0, .slice none 0 0]].toList 8 = some ([.agg [.lit (.int .i64 0), .lit (.bool false), .lit (.string []), .nil, .nil]], [], places) :=
  ⟨[], by kernel_rfl⟩
theorem laid_met (os : Os) : laidMet Tryz.prog Rows.paramChangesUptoRow.laid ((World.laidAll Tryz.prog os Rows.paramChangesUptoRow.laid).forCall (fun _ _ => 0) ⟨#[], #[.agg #[.int .i64 0, .bool false, .string .empty, .slice none 0 0, .slice none 0 0]], []⟩).memory :=
  laidMet_laidAll _ (by kernel_rfl) (by kernel_rfl)

set_option maxRecDepth 100000 in
set_option maxHeartbeats 1000000 in
theorem lifted (os : Os) (started : os.Started) (H : Type) (enc : TypeId × Value → H) (F : Stop.Interp) :
    ReturnsInHanded {} Tryz.checked os 5 .any ((Rows.OpenSpec.upto Rows.paramChangesSpec).preRow enc Tryz.prog Tryz.f5 Rows.paramChangesUptoRow.domain false Rows.paramChangesUptoRow.laid) (((Rows.OpenSpec.upto Rows.paramChangesSpec).at F).post enc Tryz.prog Tryz.f5 false true false false) := by
  obtain ⟨places, hx⟩ := reads os enc
  refine returnsInHanded_of_row (C := Tryz.checked) (s := Rows.OpenSpec.upto Rows.paramChangesSpec) own started (by kernel_rfl) Tryz.func5
    (witness_row_atRef (enc := enc) (C := Tryz.checked) false (World.laidAll Tryz.prog os Rows.paramChangesUptoRow.laid) #[.agg #[.int .i64 0, .bool false, .string .empty, .slice none 0 0, .slice none 0 0]] (World.laidAll_os _ _ _) (by kernel_rfl) (by kernel_rfl) (by kernel_rfl)
      (OpenSpec.preRow_of_cond 8 hx (by kernel_rfl) (fun k hk => by cases hk; kernel_rfl) (by kernel_rfl) (laid_met os))) ?_
  intro W base args ds gs before hval0 hW _ hcond hsz0 _ hsh _
  have hM := ml hsh
  have hsz : (DataW.weightsEach Tryz.prog (Tryz.f5.params.toList ++ Rows.paramChangesSpec.plain.varTypes Tryz.prog) (ds ++ gs)).all (· ≤ reachBytes) = true := hsz0
  have hval : ∀ (j : Nat) t v, Tryz.f5.params[j]? = some t → args[j]? = some v → Value.okWide Tryz.prog W .any base t v := hval0
  have hW' := hW
  obtain ⟨p, q, hA0, hV, rfl, hfz, hnd⟩ := hW
  have hA : DataW.TrodAll enc Tryz.prog W 0 (fun _ => true) true Tryz.f5.params.toList args.toList ds p := hA0
  rw [Tryz.params5] at hA hval hsz
  obtain ⟨v0, vs0, d0, ds0, p0, q0, hargs, rfl, rfl, h0, r0⟩ := trodAll_cons hA
  obtain ⟨rfl, rfl, rfl⟩ := trodAll_nil r0
  obtain rfl : args = #[v0] := by cases args; simp_all
  obtain ⟨rfl, rfl⟩ := trodVars_none hV
  obtain ⟨xs0, rfl, hn0⟩ := okWide_struct Tryz.underlying30 (hval 0 30 v0 rfl rfl)
  have lt0 : ∀ x ∈ p0, x.block < W.heap.size := by obtain ⟨m, hm⟩ := h0; exact DataW.trod_lt m _ _ _ hm
  obtain ⟨t0, hx0, w0⟩ := value_at h0
  have hbulk : Rows.uptoBulkAll (([d0] ++ [])) ≤ 1048576 := of_decide_eq_true (hcond _ rfl)
  simp only [List.append_nil, Rows.uptoBulkAll, Rows.uptoBulk] at hbulk
  clear hA0 hval0 hsz0 hsz
  refine (changes_any t0 W _ (.agg xs0) hx0 (fun _ hb => hb) hM (by omega)).mono fun e W' ⟨he, bel⟩ => ?_
  subst he
  exact ⟨_, rfl, _, _, _, [], _, [], hW', trodAll_mk1 (shut_bool Tryz.underlying4 _), (trodAll_cons_mk (Below.trod laidOut (by kernel_rfl) (of_decide_eq_true (by kernel_rfl)) h0 bel lt0) trodAll_mk0), rfl, bel.frame _, fun h => by cases h⟩

theorem said : Rows.ParamChangesUptoSaid :=
  OpenClaim.holds_of_cond 5 Tryz.f5 rfl rfl rfl rfl rfl rfl rfl ⟨rfl, rfl, rfl, rfl, rfl⟩ rfl rfl rfl rfl rfl (by kernel_rfl) Tryz.func5 (by kernel_rfl)
    (of_decide_eq_true (by kernel_rfl)) (by unfold Func.isWrapper; first | (rw [if_pos (by decide +kernel)]; kernel_rfl) | (rw [if_neg (by decide +kernel)]; exact ⟨rfl, rfl⟩))
    (fun os started H enc _ F => by rw [OpenClaim.pre_eq_preRow]; exact lifted os started H enc F)

theorem plain (f : FuncId) (fn : Func) (hf : Tryz.pinned.checked.prog.funcNamed "colophon/colophonlaw13.ParamChanges" = some f) (hfn : Tryz.pinned.checked.prog.funcs[f]? = some fn) :
    true = Tryz.pinned.checked.prog.looks [] ∧ ∀ (j : Nat) t, fn.params[j]? = some t → Tryz.pinned.checked.prog.wantsStandIn t = false := by
  obtain rfl : f = 5 := Option.some.inj ((show Tryz.prog.funcNamed "colophon/colophonlaw13.ParamChanges" = some 5 by kernel_rfl).symm.trans hf) |>.symm
  obtain rfl : fn = Tryz.f5 := (Option.some.inj (Tryz.func5.symm.trans hfn)).symm
  refine ⟨by kernel_rfl, fun j t ht => ?_⟩
  rw [Tryz.params5] at ht
  have hm : t ∈ ([30] : List Nat) := by simpa using Array.mem_of_getElem? ht
  have hall : (([30] : List Nat).all fun u => !Tryz.prog.wantsStandIn u) = true := by kernel_rfl
  exact (show Tryz.prog.wantsStandIn t = false by simpa using List.all_eq_true.1 hall t hm)

theorem card : Rows.ParamChangesUptoCardSaid :=
  Claim7.holds_tied_plain_at .later [] _ _ _ _ said (fun _ h => by cases h) (by kernel_rfl) (fun _ h => by cases h) paramChangesUpto_row_tie rfl ⟨rfl, rfl⟩ (by kernel_rfl) rfl plain (by kernel_rfl)
#print axioms card
end Go.Proofs.YthndgekjccclnaaGreatDoor.paramChanges
