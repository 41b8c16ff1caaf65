/-
  Joined texts: ParPlace ParPPlace ParPEdit ParREdit ParRows ParChange ParRChange.
-/
import Derived.Test.YtfploakafbnigaaGreatDoorPkParA
import Derived.Test.YtfploakafbnigaaGreatDoorWLast
import Derived.Deep.DeepCutAuto
import Derived.Deep.CutBlock
import Derived.BigQuiet
import Derived.Deep.QuietTactic
import Derived.Laws.StructEq
import Derived.Deep.LoopGhost
namespace Go.Proofs.YtfploakafbnigaaGreatDoor
open Go.RowKit Val Go.Proofs.YtfploakafbnigaaGreatDoorW.PrintLast
set_option linter.unusedVariables false
set_option linter.unusedSimpArgs false

set_option maxRecDepth 100000 in
set_option maxHeartbeats 4000000 in
theorem refPlace_any (t : VT) (nm : ByteArray) (w : World) (S : Nat → Prop) (v : Value) (h : VAL w S t v) (hS : ∀ b, S b → b < w.heap.size) (hbk : t.bulk ≤ 999999990) :
    Calls Tryz.prog 181 #[v, .string nm] w fun e w' => e = .returned (.tuple #[.agg #[.int .i64 (t.posL nm), .int .i64 (t.posC nm)], .bool (t.posOk nm)]) ∧ Below w.heap.size w w' := by
  have HG := Lib.hid (fun W (hb : Below w.heap.size w W) => refGet_any t nm W S v (h.on hS hb) (fun b hb' => Nat.lt_of_lt_of_le (hS b hb') hb.size) (by omega))
  have hdb : (t.getD nm).bulk ≤ 999999991 := by have := VT.getD_bulk t nm; omega
  have HDB := Lib.hid hdb
  obtain ⟨A, n, cap, A', n', cap', rfl⟩ := h.parts
  clear h hS hbk hdb
  go_enter Tryz.func181, Tryz.ntmps181
  go_wp2_with fail
  have hB0 := al2_below w (.cells #[.int .i64 t.kind, .bool t.is, .string t.text, .slice A n cap, .slice A' n' cap'] 25) (.cells #[.int .i64 0, .int .i64 0] 39)
  have HY0 : Hid (BK _ (w.heap.size + 1) 39 #[.int .i64 0, .int .i64 0]) := Lib.hid (al2_1 w (.cells #[.int .i64 t.kind, .bool t.is, .string t.text, .slice A n cap, .slice A' n' cap'] 25) (.cells #[.int .i64 0, .int .i64 0] 39))
  have HB0 := Lib.hid hB0
  refine (HG.out _ hB0).mono ?_
  clear hB0
  rintro e w1 ⟨v', rfl, hv, hb⟩
  obtain ⟨B, m, cp, B', m', cp', rfl⟩ := hv.parts
  have HB1 := Lib.hid (HB0.out.trans (hb.mono HB0.out.size))
  have HY1 := Lib.hid (HY0.out.on hb)
  have HV1 := Lib.hid (hv.mono (S' := fun b => b < w1.heap.size) New_old)
  clear hv hb HG HY0 HB0
  have HA := Lib.hid ((Below.refl w1.heap.size w1).alloc (Nat.le_refl _) (.cells #[.int .i64 (t.getD nm).kind, .bool (t.getD nm).is, .string (t.getD nm).text, .slice B m cp, .slice B' m' cp'] 25))
  have HXA := Lib.hid (BX.new w1 (.int .i64 (t.getD nm).kind) (.bool (t.getD nm).is) (.string (t.getD nm).text) (.slice B m cp) (.slice B' m' cp'))
  have HYA := Lib.hid (HY1.out.on HA.out)
  have HC := Lib.hid (fun nn W (hb : Below w1.heap.size w1 W) => refWhole_any (t.getD nm) nn 2147483647 W _ _ (HV1.out.on (fun b hb => hb) hb) (fun b hb' => Nat.lt_of_lt_of_le hb' hb.size) (by have := HDB.out; omega))
  go_wp2_with fail
  refine (HC.out VT.lineN _ HA.out).mono ?_
  rintro e w2 ⟨rfl, hb⟩
  have HB2 := Lib.hid (HA.out.trans (hb.mono HA.out.size))
  have HX2 := Lib.hid (HXA.out.on hb)
  have HY2 := Lib.hid (HYA.out.on hb)
  have x0 := HX2.out.c0
  have x1 := HX2.out.c1
  have x2 := HX2.out.c2
  have x3 := HX2.out.c3
  have x4 := HX2.out.c4
  clear hb HXA HYA
  go_wp2_with fail
  refine (HC.out VT.charN _ HB2.out).mono ?_
  rintro e w3 ⟨rfl, hb⟩
  have HB3 := Lib.hid (HB1.out.trans ((HB2.out.trans (hb.mono HB2.out.size)).mono HB1.out.size))
  have HY3 := Lib.hid (HY2.out.on hb)
  have y0 := HY3.out.c 0 rfl
  have y1 := HY3.out.c 1 rfl
  have f0 := HY3.out.fr 0
  have f1 := HY3.out.fr 1
  have HL := Lib.hid (show t.posL nm = (t.getD nm).wholeN VT.lineN from rfl)
  have HCh := Lib.hid (show t.posC nm = (t.getD nm).wholeN VT.charN from rfl)
  have HO := Lib.hid (show t.posOk nm = ((t.get nm).isSome && decide ((t.getD nm).kind = 5) && (t.getD nm).wholeOk VT.lineN 2147483647 && (t.getD nm).wholeOk VT.charN 2147483647) from rfl)
  have HKD : Hid ((t.getD nm).wholeOk VT.lineN 2147483647 = true → (t.getD nm).kind = 5) := Lib.hid (fun h => by
    unfold VT.wholeOk VT.hasK at h
    simp only [Bool.and_eq_true] at h
    exact VT.has_kind h.1.1)
  have hfin := HY3.out.all [.int .i64 ((t.getD nm).wholeN VT.lineN), .int .i64 ((t.getD nm).wholeN VT.charN)] rfl
  have r0 : ((w3.setCell ⟨w.heap.size + 1, 0, none⟩ (.int .i64 ((t.getD nm).wholeN VT.lineN))).setCell ⟨w.heap.size + 1, 1, none⟩ (.int .i64 ((t.getD nm).wholeN VT.charN))).cell? ⟨w.heap.size + 1, 0, none⟩ = some (.int .i64 ((t.getD nm).wholeN VT.lineN)) := hfin.c 0 rfl
  have r1 : ((w3.setCell ⟨w.heap.size + 1, 0, none⟩ (.int .i64 ((t.getD nm).wholeN VT.lineN))).setCell ⟨w.heap.size + 1, 1, none⟩ (.int .i64 ((t.getD nm).wholeN VT.charN))).cell? ⟨w.heap.size + 1, 1, none⟩ = some (.int .i64 ((t.getD nm).wholeN VT.charN)) := hfin.c 1 rfl
  have HBF := Lib.hid (setAll_below (w.heap.size + 1) (by omega) [.int .i64 ((t.getD nm).wholeN VT.lineN), .int .i64 ((t.getD nm).wholeN VT.charN)] w3 0 HB3.out)
  clear hb hfin x0 x1 x2 x3 x4
  generalize (t.getD nm).wholeN VT.lineN = l at *
  generalize (t.getD nm).wholeN VT.charN = c at *
  generalize (t.getD nm).wholeOk VT.lineN 2147483647 = q2 at *
  generalize (t.getD nm).wholeOk VT.charN 2147483647 = q3 at *
  generalize (t.get nm).isSome = q1 at *
  cases q1
  · have HF := Lib.hid (show t.posOk nm = false by rw [HO.out]; rfl)
    go_wp2
    exact bodyPost_ret (v := .tuple #[.agg #[.int .i64 l, .int .i64 c], .bool false]) (by simp [results, Tryz.results181, go_sem, r0, r1]) rfl ⟨by rw [HF.out, HL.out, HCh.out], HBF.out⟩
  cases q2
  · have HF := Lib.hid (show t.posOk nm = false by rw [HO.out]; simp)
    go_wp2
    exact bodyPost_ret (v := .tuple #[.agg #[.int .i64 l, .int .i64 c], .bool false]) (by simp [results, Tryz.results181, go_sem, r0, r1]) rfl ⟨by rw [HF.out, HL.out, HCh.out], HBF.out⟩
  have HF := Lib.hid (show t.posOk nm = q3 by rw [HO.out, HKD.out rfl]; rfl)
  go_wp2
  exact bodyPost_ret (v := .tuple #[.agg #[.int .i64 l, .int .i64 c], .bool q3]) (by simp [results, Tryz.results181, go_sem, r0, r1]) rfl ⟨by rw [HF.out, HL.out, HCh.out], HBF.out⟩
end Go.Proofs.YtfploakafbnigaaGreatDoor
namespace Go.Proofs.YtfploakafbnigaaGreatDoor
open Go.RowKit Val Go.Proofs.YtfploakafbnigaaGreatDoorW.PrintLast
set_option linter.unusedVariables false
set_option linter.unusedSimpArgs false

/-- a boxed value's five cells -/
structure X5 (g : Nat) (e0 e1 e2 e3 e4 : Value) (w : World) : Prop where
  s0 : w.cell? ⟨g, 0, none⟩ = some e0
  s1 : w.cell? ⟨g, 1, none⟩ = some e1
  s2 : w.cell? ⟨g, 2, none⟩ = some e2
  s3 : w.cell? ⟨g, 3, none⟩ = some e3
  s4 : w.cell? ⟨g, 4, none⟩ = some e4
theorem BX.x5 {w : World} {g : Nat} {v0 v1 v2 v3 v4 : Value} (h : BX w g v0 v1 v2 v3 v4) : X5 g v0 v1 v2 v3 v4 w := ⟨h.c0, h.c1, h.c2, h.c3, h.c4⟩
def PlaceP (t : VT) (nm : ByteArray) (g : Nat) (b : Bool) (w : World) (e : Ending) (w' : World) : Prop :=
  e = .returned (.agg #[.int .i64 (t.posL nm), .int .i64 (t.posC nm)]) ∧ RDB w' g (b || !t.posOk nm) ∧ But g w w'

set_option maxRecDepth 100000 in
set_option maxHeartbeats 4000000 in
theorem place_any (t : VT) (nm : ByteArray) (w : World) (S : Nat → Prop) (v : Value) (g : Nat) (b : Bool) (h : VAL w S t v) (hS : ∀ x, S x → x < w.heap.size) (hr : Rd w g b) (hbk : t.bulk ≤ 1000000000) :
    Calls Tryz.prog 180 #[.pointer (some ⟨g, 0, none⟩), v, .string nm] w (PlaceP t nm g b w) := by
  have HG := Lib.hid (fun W (hb : Below w.heap.size w W) => member_any t nm 5 W S v g b (h.on hS hb) (fun b hb' => Nat.lt_of_lt_of_le (hS b hb') hb.size) (hr.rd.on hb) (by omega))
  have hdb : (t.getD nm).bulk ≤ 1000000001 := by have := VT.getD_bulk t nm; omega
  have HDB := Lib.hid hdb
  obtain ⟨A, n, cap, A', n', cap', rfl⟩ := h.parts
  have HRD := Lib.hid hr
  have HGL := Lib.hid (hr.rd.lt)
  clear h hS hbk hr hdb
  go_enter Tryz.func180, Tryz.ntmps180
  go_wp2_with fail
  have hB0 := al2_below w (.cells #[.int .i64 t.kind, .bool t.is, .string t.text, .slice A n cap, .slice A' n' cap'] 25) (.cells #[.int .i64 0, .int .i64 0] 39)
  have HY0 : Hid (BK _ (w.heap.size + 1) 39 #[.int .i64 0, .int .i64 0]) := Lib.hid (al2_1 w (.cells #[.int .i64 t.kind, .bool t.is, .string t.text, .slice A n cap, .slice A' n' cap'] 25) (.cells #[.int .i64 0, .int .i64 0] 39))
  have HB0 := Lib.hid hB0
  have HR0 := Lib.hid (HRD.out.on hB0)
  have HZ0 : Hid (w.heap.size + 2 ≤ ((w.alloc (.cells #[.int .i64 t.kind, .bool t.is, .string t.text, .slice A n cap, .slice A' n' cap'] 25)).alloc (.cells #[.int .i64 0, .int .i64 0] 39)).heap.size) := Lib.hid (by simp)
  refine (HG.out _ hB0).mono ?_
  clear hB0
  rintro e w1 ⟨v', rfl, hv, hrd, hbu⟩
  obtain ⟨B, m, cp, B', m', cp', rfl⟩ := hv.parts
  have hgne : w.heap.size + 1 ≠ g := by have := HGL.out; omega
  have HR1 := Lib.hid (HR0.out.but hbu hrd)
  have HB1 := Lib.hid ((But.of HB0.out).trans hbu)
  have HY1 := Lib.hid (HY0.out.but hbu hgne)
  have HZ1 := Lib.hid (Nat.le_trans HZ0.out hbu.size)
  have HV1 := Lib.hid (hv.mono (S' := fun b => w.heap.size + 2 ≤ b ∧ b < w1.heap.size) (fun b hb => ⟨Nat.le_trans HZ0.out hb.1, hb.2⟩))
  clear hv hrd hbu HG HY0 HB0 HR0 HZ0
  have HA := Lib.hid ((Below.refl w1.heap.size w1).alloc (Nat.le_refl _) (.cells #[.int .i64 (t.getD nm).kind, .bool (t.getD nm).is, .string (t.getD nm).text, .slice B m cp, .slice B' m' cp'] 25))
  have HXA := Lib.hid (BX.new w1 (.int .i64 (t.getD nm).kind) (.bool (t.getD nm).is) (.string (t.getD nm).text) (.slice B m cp) (.slice B' m' cp'))
  have HYA := Lib.hid (HY1.out.on HA.out)
  have HRA := Lib.hid (HR1.out.on HA.out)
  have HVA := Lib.hid (HV1.out.on (fun b hb => hb.2) HA.out)
  have HBA := Lib.hid (HB1.out.trans (But.of HA.out))
  have HZA := Lib.hid HA.out.size
  have hgx : w1.heap.size ≠ g := by have := HGL.out; have := HZ1.out; omega
  go_wp2_with fail
  generalize (w1.alloc (.cells #[.int .i64 (t.getD nm).kind, .bool (t.getD nm).is, .string (t.getD nm).text, .slice B m cp, .slice B' m' cp'] 25)) = w2 at *
  generalize hz1 : w1.heap.size = z1 at *
  clear HA HY1 HR1 HV1 HB1
  refine start_ (n := 8) (S := X5 z1 (.int .i64 (t.getD nm).kind) (.bool (t.getD nm).is) (.string (t.getD nm).text) (.slice B m cp) (.slice B' m' cp')) (ds := [7]) #[false, false, false, false, false, false, false, false] (by kernel_rfl) rfl rfl (HXA.out.on ((Below.refl w2.heap.size w2).drew)).x5 (fun hHeld => ?_)
  have hdr : Below w2.heap.size w2 w2.drew := (Below.refl _ _).drew
  replace HXA := Lib.hid (HXA.out.on hdr)
  replace HYA := Lib.hid (HYA.out.on hdr)
  replace HRA := Lib.hid (HRA.out.on hdr)
  replace HVA := Lib.hid (HVA.out.on (fun b hb => Nat.lt_of_lt_of_le hb.2 HZA.out) hdr)
  replace HBA := Lib.hid (HBA.out.trans (But.of hdr))
  replace HZA : Hid (z1 ≤ w2.drew.heap.size) := HZA
  clear hdr
  generalize w2.drew = w3 at *
  have HL := Lib.hid (show t.posL nm = (t.getD nm).wholeN VT.lineN from rfl)
  have HCh := Lib.hid (show t.posC nm = (t.getD nm).wholeN VT.charN from rfl)
  have HO := Lib.hid (show t.posOk nm = (t.hasK nm 5 && (t.getD nm).wholeOk VT.lineN 2147483647 && (t.getD nm).wholeOk VT.charN 2147483647) from rfl)
  refine pure_ (i := 0) (N := some 12) (v := ?_) (a' := ?_) #[true, false, false, false, false, false, false, false] rfl rfl (by kernel_rfl) (fun _ _ _ h => h) (Or.inl ⟨by rfl, ?_⟩) ?_ ?_
  rotate_left
  · intro w'; go_simp; with_reducible rfl
  rotate_left
  · simp only [Act.put, List.setIfInBounds_toArray, List.set_cons_zero, List.set_cons_succ, i64_w, i32_w]; rfl
  refine take_ (i := 1) (N := some 13) (v := ?_) (a' := ?_) #[true, true, false, false, false, false, false, false] rfl rfl (by kernel_rfl) (fun _ _ _ h => h) (Or.inl ⟨by rfl, ?_⟩) hHeld ?_ ?_
  rotate_left
  · rintro w' ⟨s0, s1, s2, s3, s4⟩; go_simp; with_reducible rfl
  rotate_left
  · simp only [Act.put, List.setIfInBounds_toArray, List.set_cons_zero, List.set_cons_succ, i64_w, i32_w]; rfl
  refine pure_ (i := 3) (N := some 15) (v := ?_) (a' := ?_) #[true, true, false, true, false, false, false, false] rfl rfl (by kernel_rfl) (fun _ _ _ h => h) (Or.inl ⟨by rfl, ?_⟩) ?_ ?_
  rotate_left
  · intro w'; go_simp; with_reducible rfl
  rotate_left
  · simp only [Act.put, List.setIfInBounds_toArray, List.set_cons_zero, List.set_cons_succ, i64_w, i32_w]; rfl
  refine take_ (i := 4) (N := some 16) (v := ?_) (a' := ?_) #[true, true, false, true, true, false, false, false] rfl rfl (by kernel_rfl) (fun _ _ _ h => h) (Or.inl ⟨by rfl, ?_⟩) hHeld ?_ ?_
  rotate_left
  · rintro w' ⟨s0, s1, s2, s3, s4⟩; go_simp; with_reducible rfl
  rotate_left
  · simp only [Act.put, List.setIfInBounds_toArray, List.set_cons_zero, List.set_cons_succ, i64_w, i32_w]; rfl
  refine one_ (i := 2) (N := some 14) #[true, true, true, true, true, false, false, false] rfl rfl (by kernel_rfl) (by decide) (fun K hK => ?_)
  refine goes_ Tryz.func128 (by kernel_rfl) rfl #[.pointer (some ⟨g, 0, none⟩), .agg #[.int .i64 (t.getD nm).kind, .bool (t.getD nm).is, .string (t.getD nm).text, .slice B m cp, .slice B' m' cp'], .string VT.lineN, .int .i64 2147483647] (by rfl) rfl rfl (by (try simp only [List.map_toArray, List.map_cons, List.map_nil]); first | done | rfl) ?_
  refine (whole_any (t.getD nm) VT.lineN 2147483647 w3 _ _ g _ HVA.out (fun b hb => Nat.lt_of_lt_of_le hb.2 HZA.out) HRA.out (by have := HDB.out; omega)).mono ?_
  rintro e w4 ⟨rfl, hrd, hbu⟩
  refine ⟨_, rfl, ?_⟩
  replace HXA := Lib.hid (HXA.out.but hbu hgx)
  replace HYA := Lib.hid (HYA.out.but hbu hgne)
  replace HVA := Lib.hid (HVA.out.but hbu (fun b hb => ⟨Nat.lt_of_lt_of_le hb.2 HZA.out, by have := hb.1; have := HGL.out; omega⟩))
  replace HBA := Lib.hid (HBA.out.trans hbu)
  replace HRA := Lib.hid (HRA.out.but hbu hrd)
  replace HZA := Lib.hid (Nat.le_trans HZA.out hbu.size)
  clear hrd hbu hHeld
  refine hK.out _ _ HXA.out.x5 (fun hHeld => ?_)
  clear hK K
  refine norm_ (a' := ?_) ?_ ?_
  rotate_left
  · show Act.put _ (some 14) _ = _; simp only [Act.put, List.setIfInBounds_toArray, List.set_cons_zero, List.set_cons_succ, i64_w, i32_w]; rfl
  refine one_ (i := 5) (N := some 17) #[true, true, true, true, true, true, false, false] rfl rfl (by kernel_rfl) (by decide) (fun K hK => ?_)
  refine goes_ Tryz.func128 (by kernel_rfl) rfl #[.pointer (some ⟨g, 0, none⟩), .agg #[.int .i64 (t.getD nm).kind, .bool (t.getD nm).is, .string (t.getD nm).text, .slice B m cp, .slice B' m' cp'], .string VT.charN, .int .i64 2147483647] (by rfl) rfl rfl (by (try simp only [List.map_toArray, List.map_cons, List.map_nil]); first | done | rfl) ?_
  refine (whole_any (t.getD nm) VT.charN 2147483647 w4 _ _ g _ HVA.out (fun b hb => Nat.lt_of_lt_of_le hb.2 HZA.out) HRA.out (by have := HDB.out; omega)).mono ?_
  rintro e w5 ⟨rfl, hrd, hbu⟩
  refine ⟨_, rfl, ?_⟩
  replace HXA := Lib.hid (HXA.out.but hbu hgx)
  replace HYA := Lib.hid (HYA.out.but hbu hgne)
  replace HVA := Lib.hid (HVA.out.but hbu (fun b hb => ⟨Nat.lt_of_lt_of_le hb.2 HZA.out, by have := hb.1; have := HGL.out; omega⟩))
  replace HBA := Lib.hid (HBA.out.trans hbu)
  replace HRA := Lib.hid (HRA.out.but hbu hrd)
  replace HZA := Lib.hid (Nat.le_trans HZA.out hbu.size)
  clear hrd hbu hHeld
  refine hK.out _ _ HXA.out.x5 (fun hHeld => ?_)
  clear hK K
  refine norm_ (a' := ?_) ?_ ?_
  rotate_left
  · show Act.put _ (some 17) _ = _; simp only [Act.put, List.setIfInBounds_toArray, List.set_cons_zero, List.set_cons_succ, i64_w, i32_w]; rfl
  refine pure_ (i := 6) (N := some 18) (v := ?_) (a' := ?_) #[true, true, true, true, true, true, true, false] rfl rfl (by kernel_rfl) (fun _ _ _ h => h) (Or.inl ⟨by rfl, ?_⟩) ?_ ?_
  rotate_left
  · intro w'; go_simp; with_reducible rfl
  rotate_left
  · simp only [Act.put, List.setIfInBounds_toArray, List.set_cons_zero, List.set_cons_succ, i64_w, i32_w]; rfl
  refine last_ (i := 7) (N := none) #[true, true, true, true, true, true, true, true] rfl rfl (by kernel_rfl) (by decide) (fun K hK => ?_)
  have f0 := HYA.out.fr 0
  have f1 := HYA.out.fr 1
  have y0 := HYA.out.c 0 rfl
  have y1 := HYA.out.c 1 rfl
  refine skip_ (w1 := ?_) (by rfl) rfl ?_ ?_
  rotate_left
  · go_simp
    rfl
  refine hK.out _ _ ?_
  clear hK K
  refine done_ (by kernel_rfl) ?_
  have hfin := HYA.out.all [.int .i64 ((t.getD nm).wholeN VT.lineN), .int .i64 ((t.getD nm).wholeN VT.charN)] rfl
  have r0 : ((w5.setCell ⟨w.heap.size + 1, 0, none⟩ (.int .i64 ((t.getD nm).wholeN VT.lineN))).setCell ⟨w.heap.size + 1, 1, none⟩ (.int .i64 ((t.getD nm).wholeN VT.charN))).cell? ⟨w.heap.size + 1, 0, none⟩ = some (.int .i64 ((t.getD nm).wholeN VT.lineN)) := hfin.c 0 rfl
  have r1 : ((w5.setCell ⟨w.heap.size + 1, 0, none⟩ (.int .i64 ((t.getD nm).wholeN VT.lineN))).setCell ⟨w.heap.size + 1, 1, none⟩ (.int .i64 ((t.getD nm).wholeN VT.charN))).cell? ⟨w.heap.size + 1, 1, none⟩ = some (.int .i64 ((t.getD nm).wholeN VT.charN)) := hfin.c 1 rfl
  have HBF := Lib.hid (setAll_but (w.heap.size + 1) (by omega) [.int .i64 ((t.getD nm).wholeN VT.lineN), .int .i64 ((t.getD nm).wholeN VT.charN)] w5 0 HBA.out)
  have HRF : Hid (RDB ((w5.setCell ⟨w.heap.size + 1, 0, none⟩ (.int .i64 ((t.getD nm).wholeN VT.lineN))).setCell ⟨w.heap.size + 1, 1, none⟩ (.int .i64 ((t.getD nm).wholeN VT.charN))) g (b || !t.posOk nm)) :=
    Lib.hid ((((HRA.out.rd).far (p := ⟨w.heap.size + 1, 0, none⟩) _ (fun e => hgne e.symm)).far (p := ⟨w.heap.size + 1, 1, none⟩) _ (fun e => hgne e.symm)).eq (by
      rw [HO.out]; cases b <;> cases t.hasK nm 5 <;> cases (t.getD nm).wholeOk VT.lineN 2147483647 <;> cases (t.getD nm).wholeOk VT.charN 2147483647 <;> rfl))
  clear hfin f0 f1 y0 y1 hHeld
  go_wp2
  exact bodyPost_ret (v := .agg #[.int .i64 ((t.getD nm).wholeN VT.lineN), .int .i64 ((t.getD nm).wholeN VT.charN)]) (by simp [results, Tryz.results180, go_sem, r0, r1]) rfl ⟨by rw [HL.out, HCh.out], HRF.out, HBF.out⟩
end Go.Proofs.YtfploakafbnigaaGreatDoor
namespace Go.Proofs.YtfploakafbnigaaGreatDoor
open Go.RowKit Val Go.Proofs.YtfploakafbnigaaGreatDoorW.PrintLast
set_option linter.unusedVariables false
set_option linter.unusedSimpArgs false

/-- an edit, as a value -/
def edV (e : VT.Ed) : Value := .agg #[.bool e.whole, .int .i64 e.a, .int .i64 e.b, .int .i64 e.c, .int .i64 e.d, .string e.text]
def edC (e : VT.Ed) : List Value := [.bool e.whole, .int .i64 e.a, .int .i64 e.b, .int .i64 e.c, .int .i64 e.d, .string e.text]
def EditP (t : VT) (g : Nat) (b : Bool) (w : World) (e : Ending) (w' : World) : Prop := e = .returned (edV t.editOf) ∧ RDB w' g (b || !t.editOk) ∧ But g w w'
theorem editOf_bare {t : VT} (h : t.bare = true) : edV t.editOf = .agg #[.bool true, .int .i64 0, .int .i64 0, .int .i64 0, .int .i64 0, .string (t.textOf VT.textN)] := by unfold VT.editOf; rw [h]; rfl
theorem editOf_range {t : VT} (h : t.bare = false) : edV t.editOf = .agg #[.bool false, .int .i64 ((t.getD VT.rangeN).posL VT.startN), .int .i64 ((t.getD VT.rangeN).posC VT.startN), .int .i64 ((t.getD VT.rangeN).posL VT.endN), .int .i64 ((t.getD VT.rangeN).posC VT.endN), .string (t.textOf VT.textN)] := by unfold VT.editOf; rw [h]; rfl
theorem editOk_bare {t : VT} (h : t.bare = true) : t.editOk = t.hasK VT.textN 3 := by unfold VT.editOk; rw [h]; simp
theorem editOk_range {t : VT} (h : t.bare = false) : t.editOk = (t.hasK VT.textN 3 && ((t.getD VT.rangeN).posOk VT.startN && (t.getD VT.rangeN).posOk VT.endN)) := by unfold VT.editOk; rw [h]; simp
theorem range_hasK {t : VT} (h : t.bare = false) (q : Bool) : (t.hasK VT.rangeN 5 && ((t.getD VT.rangeN).posOk VT.startN && q)) = ((t.getD VT.rangeN).posOk VT.startN && q) := by
  have hh : t.has VT.rangeN = true := by
    unfold VT.bare at h
    cases e : t.has VT.rangeN
    · rw [e] at h; cases h
    · rfl
  have := VT.posOk_hasK t (t.getD VT.rangeN) VT.startN VT.rangeN rfl hh
  rw [← Bool.and_assoc, this]

set_option maxRecDepth 100000 in
set_option maxHeartbeats 8000000 in
theorem edit_any (t : VT) (w : World) (S : Nat → Prop) (v : Value) (g : Nat) (b : Bool) (h : VAL w S t v) (hS : ∀ x, S x → x < w.heap.size ∧ x ≠ g) (hr : Rd w g b) (hbk : t.bulk ≤ 999999980) :
    Calls Tryz.prog 134 #[.pointer (some ⟨g, 0, none⟩), v] w (EditP t g b w) := by
  have HV := Lib.hid h
  have HS := Lib.hid hS
  have HK := Lib.hid hbk
  have hdb : (t.getD VT.rangeN).bulk ≤ 999999981 := by have := VT.getD_bulk t VT.rangeN; omega
  have HDB := Lib.hid hdb
  obtain ⟨A, n, cap, A', n', cap', rfl⟩ := h.parts
  have HRD := Lib.hid hr
  have HGL := Lib.hid (hr.rd.lt)
  clear h hS hbk hr hdb
  have fl := fieldText
  go_enter Tryz.func134, Tryz.ntmps134
  go_wp2_with fail
  have hB0 := al2_below w (.cells #[.int .i64 t.kind, .bool t.is, .string t.text, .slice A n cap, .slice A' n' cap'] 25) (.cells #[.bool false, .int .i64 0, .int .i64 0, .int .i64 0, .int .i64 0, .string ⟨#[]⟩] 106)
  have HY0 : Hid (BK _ (w.heap.size + 1) 106 #[.bool false, .int .i64 0, .int .i64 0, .int .i64 0, .int .i64 0, .string ⟨#[]⟩]) := Lib.hid (al2_1 w (.cells #[.int .i64 t.kind, .bool t.is, .string t.text, .slice A n cap, .slice A' n' cap'] 25) (.cells #[.bool false, .int .i64 0, .int .i64 0, .int .i64 0, .int .i64 0, .string ⟨#[]⟩] 106))
  have HX0 : Hid (BX _ w.heap.size (.int .i64 t.kind) (.bool t.is) (.string t.text) (.slice A n cap) (.slice A' n' cap')) := Lib.hid (al2_0 w (.cells #[.int .i64 t.kind, .bool t.is, .string t.text, .slice A n cap, .slice A' n' cap'] 25) (.cells #[.bool false, .int .i64 0, .int .i64 0, .int .i64 0, .int .i64 0, .string ⟨#[]⟩] 106))
  have HB0 := Lib.hid hB0
  have HR0 := Lib.hid (HRD.out.on hB0)
  have HV0 := Lib.hid (HV.out.on (fun b hb => (HS.out b hb).1) hB0)
  have HZ0 : Hid (w.heap.size + 2 ≤ ((w.alloc (.cells #[.int .i64 t.kind, .bool t.is, .string t.text, .slice A n cap, .slice A' n' cap'] 25)).alloc (.cells #[.bool false, .int .i64 0, .int .i64 0, .int .i64 0, .int .i64 0, .string ⟨#[]⟩] 106)).heap.size) := Lib.hid (by simp)
  refine (member_any t VT.textN 3 _ S _ g b HV0.out (fun x hx => Nat.lt_of_lt_of_le (HS.out x hx).1 HB0.out.size) HR0.out.rd (by have := HK.out; omega)).mono ?_
  clear hB0
  rintro e w1 ⟨v', rfl, hv, hrd, hbu⟩
  obtain ⟨B, m, cp, B', m', cp', rfl⟩ := hv.parts
  have hgne : w.heap.size + 1 ≠ g := by have := HGL.out; omega
  have hgne0 : w.heap.size ≠ g := by have := HGL.out; omega
  have HTX := Lib.hid (show t.textOf VT.textN = (t.getD VT.textN).text from rfl)
  have HR1 := Lib.hid (HR0.out.but hbu hrd)
  have HB1 := Lib.hid ((But.of HB0.out).trans hbu)
  have HY1 := Lib.hid (HY0.out.but hbu hgne)
  have HX1 := Lib.hid (HX0.out.but hbu hgne0)
  have HZ1 := Lib.hid (Nat.le_trans HZ0.out hbu.size)
  have HV1 := Lib.hid (HV0.out.but hbu (fun x hx => ⟨Nat.lt_of_lt_of_le (HS.out x hx).1 HB0.out.size, (HS.out x hx).2⟩))
  clear hv hrd hbu HY0 HB0 HR0 HZ0 HX0 HV0
  -- e, in a block of its own
  have HA := Lib.hid ((Below.refl w1.heap.size w1).alloc (Nat.le_refl _) (.cells #[.bool false, .int .i64 0, .int .i64 0, .int .i64 0, .int .i64 0, .string (t.getD VT.textN).text] 106))
  have HEA := Lib.hid (BK.new w1 106 #[.bool false, .int .i64 0, .int .i64 0, .int .i64 0, .int .i64 0, .string (t.getD VT.textN).text])
  have HYA := Lib.hid (HY1.out.on HA.out)
  have HXA := Lib.hid (HX1.out.on HA.out)
  have HRA := Lib.hid (HR1.out.on HA.out)
  have HVA := Lib.hid (HV1.out.on (fun x hx => Nat.lt_of_lt_of_le (HS.out x hx).1 (by have := HZ1.out; omega)) HA.out)
  have HBA := Lib.hid (HB1.out.trans (But.of HA.out))
  have HZA := Lib.hid HA.out.size
  have hge : w1.heap.size ≠ g := by have := HGL.out; have := HZ1.out; omega
  have hge2 : w.heap.size + 1 ≠ w1.heap.size := by have := HZ1.out; omega
  have x0 := HXA.out.c0
  have x1 := HXA.out.c1
  have x2 := HXA.out.c2
  have x3 := HXA.out.c3
  have x4 := HXA.out.c4
  clear HY1 HX1 HR1 HV1 HB1
  have HGR := Lib.hid (fun W (hv : VAL W S t (.agg #[.int .i64 t.kind, .bool t.is, .string t.text, .slice A n cap, .slice A' n' cap'])) (hs : ∀ x, S x → x < W.heap.size) => Get_any t VT.rangeN W S _ hv hs (by have := HK.out; omega))
  go_wp2_with fail
  refine (HGR.out _ HVA.out (fun x hx => Nat.lt_of_lt_of_le (HS.out x hx).1 (by have := HZ1.out; have := HZA.out; omega))).mono ?_
  rintro e w2 ⟨v', rfl, hv, hb⟩
  obtain ⟨C, m2, cp2, C', m2', cp2', rfl⟩ := hv.parts
  replace HXA := Lib.hid (HXA.out.on hb)
  replace HYA := Lib.hid (HYA.out.on hb)
  replace HEA := Lib.hid (HEA.out.on hb)
  replace HRA := Lib.hid (HRA.out.on hb)
  replace HVA := Lib.hid (HVA.out.on (fun x hx => Nat.lt_of_lt_of_le (HS.out x hx).1 (by have := HZ1.out; have := HZA.out; omega)) hb)
  replace HBA := Lib.hid (HBA.out.trans (But.of hb))
  replace HZA := Lib.hid (Nat.le_trans HZA.out hb.size)
  clear hv hb x0 x1 x2 x3 x4 HA HGR
  generalize hge3 : w1.heap.size = ge at *
  -- x, boxed
  have hA := (Below.refl w2.heap.size w2).alloc (Nat.le_refl _) (.cells #[.int .i64 (t.getD VT.rangeN).kind, .bool (t.getD VT.rangeN).is, .string (t.getD VT.rangeN).text, .slice C m2 cp2, .slice C' m2' cp2'] 25)
  have HWA := Lib.hid (BX.new w2 (.int .i64 (t.getD VT.rangeN).kind) (.bool (t.getD VT.rangeN).is) (.string (t.getD VT.rangeN).text) (.slice C m2 cp2) (.slice C' m2' cp2'))
  replace HXA := Lib.hid (HXA.out.on hA)
  replace HYA := Lib.hid (HYA.out.on hA)
  replace HEA := Lib.hid (HEA.out.on hA)
  replace HRA := Lib.hid (HRA.out.on hA)
  replace HVA := Lib.hid (HVA.out.on (fun x hx => Nat.lt_of_lt_of_le (HS.out x hx).1 (by have := HZ1.out; have := HZA.out; omega)) hA)
  replace HBA := Lib.hid (HBA.out.trans (But.of hA))
  replace HZA := Lib.hid (Nat.le_trans HZA.out hA.size)
  clear hA
  have HBR := Lib.hid (show t.bare = (!(t.get VT.rangeN).isSome || decide ((t.getD VT.rangeN).kind = 0)) from rfl)
  have key : ∀ (P : Prop), (t.bare = true → ((t.get VT.rangeN).isSome = false ∨ ((t.get VT.rangeN).isSome = true ∧ (t.getD VT.rangeN).kind = 0)) → P) → (t.bare = false → (t.get VT.rangeN).isSome = true → ¬ (t.getD VT.rangeN).kind = 0 → P) → P := fun P h1 h2 => by
    cases hq : (t.get VT.rangeN).isSome
    · exact h1 (by rw [HBR.out, hq]; rfl) (.inl hq)
    · by_cases hk : (t.getD VT.rangeN).kind = 0
      · exact h1 (by rw [HBR.out, hq, hk]; rfl) (.inr ⟨hq, hk⟩)
      · exact h2 (by rw [HBR.out, hq, decide_eq_false hk]; rfl) hq hk
  go_upto_region 3 with (fail)
  have hne3 : ge ≠ w.heap.size + 1 := fun e => hge2 e.symm
  generalize hWW : (w2.alloc (.cells #[.int .i64 (t.getD VT.rangeN).kind, .bool (t.getD VT.rangeN).is, .string (t.getD VT.rangeN).text, .slice C m2 cp2, .slice C' m2' cp2'] 25)) = W at *
  clear hWW

  refine key _ ?_ ?_
  · intro hbare hcase
    have HF := Lib.hid (editOf_bare hbare)
    have HOK := Lib.hid (editOk_bare hbare)
    have x0 := HWA.out.c0
    have x1 := HWA.out.c1
    have x2 := HWA.out.c2
    have x3 := HWA.out.c3
    have x4 := HWA.out.c4
    have ef := HEA.out.fr 0
    have e0 := HEA.out.c 0 rfl
    have e1 := HEA.out.c 1 rfl
    have e2 := HEA.out.c 2 rfl
    have e3 := HEA.out.c 3 rfl
    have e4 := HEA.out.c 4 rfl
    have e5 := HEA.out.c 5 rfl
    have y0 := HYA.out.c 0 rfl
    have y1 := HYA.out.c 1 rfl
    have y2 := HYA.out.c 2 rfl
    have y3 := HYA.out.c 3 rfl
    have y4 := HYA.out.c 4 rfl
    have y5 := HYA.out.c 5 rfl
    have f0 := HYA.out.fr 0
    have f1 := HYA.out.fr 1
    have f2 := HYA.out.fr 2
    have f3 := HYA.out.fr 3
    have f4 := HYA.out.fr 4
    have f5 := HYA.out.fr 5
    clear hbare key
    generalize hq : (t.get VT.rangeN).isSome = q at *
    generalize hkk : (t.getD VT.rangeN).kind = kk at *
    clear hq hkk
    have HYF := Lib.hid (HYA.out.far (p := ⟨ge, 0, none⟩) (.bool true) hge2)
    obtain ⟨r0, r1, r2, r3, r4, r5⟩ := HYF.out.six rfl (.bool true) (.int .i64 0) (.int .i64 0) (.int .i64 0) (.int .i64 0) (.string (t.getD VT.textN).text)
    have HBF := Lib.hid (setAll_but (w.heap.size + 1) (by omega) [.bool true, .int .i64 0, .int .i64 0, .int .i64 0, .int .i64 0, .string (t.getD VT.textN).text] (W.setCell ⟨ge, 0, none⟩ (.bool true)) 0 (HBA.out.far ⟨ge, 0, none⟩ (.bool true) (by have := HZ1.out; show w.heap.size ≤ ge; omega)))
    have HRF : Hid (RDB (setAll (w.heap.size + 1) (W.setCell ⟨ge, 0, none⟩ (.bool true)) 0 [.bool true, .int .i64 0, .int .i64 0, .int .i64 0, .int .i64 0, .string (t.getD VT.textN).text]) g (b || !t.editOk)) := Lib.hid (by
      rw [HOK.out]
      exact (setAll_same (S := (· = g)) (w.heap.size + 1) _ (fun x hx => by omega) _ 0 g rfl).trans (HRA.out.rd.far (p := ⟨ge, 0, none⟩) _ (fun e => hge e.symm)))
    have HFF : Hid (edV t.editOf = .agg #[.bool true, .int .i64 0, .int .i64 0, .int .i64 0, .int .i64 0, .string (t.getD VT.textN).text]) := Lib.hid (HF.out.trans (by rw [HTX.out]))
    rcases hcase with h0 | ⟨h0, h1⟩
    · subst h0
      go_wp2
      exact bodyPost_ret (v := .agg #[.bool true, .int .i64 0, .int .i64 0, .int .i64 0, .int .i64 0, .string (t.getD VT.textN).text]) (by simp [results, Tryz.results134, go_sem, r0, r1, r2, r3, r4, r5]) rfl ⟨by rw [HFF.out], HRF.out, HBF.out⟩
    · subst h0
      obtain ⟨k1, k2⟩ := int_eq h1
      subst h1
      go_wp2
      exact bodyPost_ret (v := .agg #[.bool true, .int .i64 0, .int .i64 0, .int .i64 0, .int .i64 0, .string (t.getD VT.textN).text]) (by simp [results, Tryz.results134, go_sem, r0, r1, r2, r3, r4, r5]) rfl ⟨by rw [HFF.out], HRF.out, HBF.out⟩
  · intro hbare hh hk0
    have HF := Lib.hid (editOf_range hbare)
    have HOK := Lib.hid (editOk_range hbare)
    have HRH := Lib.hid (range_hasK hbare)
    obtain ⟨k1, k2⟩ := int_ne hk0
    have x0 := HWA.out.c0
    have x1 := HWA.out.c1
    have x2 := HWA.out.c2
    have x3 := HWA.out.c3
    have x4 := HWA.out.c4
    have xx0 := HXA.out.c0
    have xx1 := HXA.out.c1
    have xx2 := HXA.out.c2
    have xx3 := HXA.out.c3
    have xx4 := HXA.out.c4
    rw [hh]
    clear hbare key hh hk0
    have HSW := Lib.hid (show ∀ x, S x → x < W.heap.size from fun x hx => Nat.lt_of_lt_of_le (HS.out x hx).1 (by have := HZ1.out; have := HZA.out; omega))
    go_wp2_with fail
    refine (member_any t VT.rangeN 5 W S _ g _ HVA.out HSW.out HRA.out.rd (by have := HK.out; omega)).mono ?_
    rintro e w3 ⟨v', rfl, hv, hrd, hbu⟩
    obtain ⟨D, m3, cp3, D', m3', cp3', rfl⟩ := hv.parts
    have HV3 := Lib.hid (hv.mono (S' := fun x => W.heap.size ≤ x ∧ x < w3.heap.size) (fun x hx => hx))
    replace HRA := Lib.hid (HRA.out.but hbu hrd)
    replace HYA := Lib.hid (HYA.out.but hbu hgne)
    replace HEA := Lib.hid (HEA.out.but hbu hge)
    replace HBA := Lib.hid (HBA.out.trans hbu)
    have HZW := Lib.hid (show g < W.heap.size by have := HGL.out; have := HZ1.out; have := HZA.out; omega)
    have HZ3 := Lib.hid hbu.size
    have HWZ := Lib.hid HZA.out
    clear hv hrd hbu x0 x1 x2 x3 x4 xx0 xx1 xx2 xx3 xx4 HXA HWA HVA HSW
    generalize W.heap.size = zW at *
    have hA := (Below.refl w3.heap.size w3).alloc (Nat.le_refl _) (.cells #[.int .i64 (t.getD VT.rangeN).kind, .bool (t.getD VT.rangeN).is, .string (t.getD VT.rangeN).text, .slice D m3 cp3, .slice D' m3' cp3'] 25)
    have HXA := Lib.hid (BX.new w3 (.int .i64 (t.getD VT.rangeN).kind) (.bool (t.getD VT.rangeN).is) (.string (t.getD VT.rangeN).text) (.slice D m3 cp3) (.slice D' m3' cp3'))
    have HVA := Lib.hid (HV3.out.on (fun x hx => hx.2) hA)
    replace HYA := Lib.hid (HYA.out.on hA)
    replace HEA := Lib.hid (HEA.out.on hA)
    replace HRA := Lib.hid (HRA.out.on hA)
    replace HBA := Lib.hid (HBA.out.trans (But.of hA))
    have HZ4 := Lib.hid hA.size
    have hgx : w3.heap.size ≠ g := by have := HZW.out; have := HZ3.out; omega
    clear hA HV3
    go_upto_region 7 with (fail)
    generalize (w3.alloc (.cells #[.int .i64 (t.getD VT.rangeN).kind, .bool (t.getD VT.rangeN).is, .string (t.getD VT.rangeN).text, .slice D m3 cp3, .slice D' m3' cp3'] 25)) = w4 at *
    generalize hz3 : w3.heap.size = z3 at *
    refine start_ (n := 9) (S := X5 z3 (.int .i64 (t.getD VT.rangeN).kind) (.bool (t.getD VT.rangeN).is) (.string (t.getD VT.rangeN).text) (.slice D m3 cp3) (.slice D' m3' cp3')) (ds := [8]) #[false, false, false, false, false, false, false, false, false] (by kernel_rfl) rfl rfl (HXA.out.on ((Below.refl w4.heap.size w4).drew)).x5 (fun hHeld => ?_)
    have hdr : Below w4.heap.size w4 w4.drew := (Below.refl _ _).drew
    replace HXA := Lib.hid (HXA.out.on hdr)
    replace HYA := Lib.hid (HYA.out.on hdr)
    replace HEA := Lib.hid (HEA.out.on hdr)
    replace HRA := Lib.hid (HRA.out.on hdr)
    replace HVA := Lib.hid (HVA.out.on (fun x hx => Nat.lt_of_lt_of_le hx.2 HZ4.out) hdr)
    replace HBA := Lib.hid (HBA.out.trans (But.of hdr))
    replace HZ4 : Hid (z3 ≤ w4.drew.heap.size) := HZ4
    clear hdr
    generalize w4.drew = w5 at *
    refine pure_ (i := 0) (N := some 31) (v := ?_) (a' := ?_) #[true, false, false, false, false, false, false, false, false] rfl rfl (by kernel_rfl) (fun _ _ _ h => h) (Or.inl ⟨by rfl, ?_⟩) ?_ ?_
    rotate_left
    · intro w'; go_simp; with_reducible rfl
    rotate_left
    · simp only [Act.put, List.setIfInBounds_toArray, List.set_cons_zero, List.set_cons_succ, i64_w, i32_w]; rfl
    refine take_ (i := 1) (N := some 32) (v := ?_) (a' := ?_) #[true, true, false, false, false, false, false, false, false] rfl rfl (by kernel_rfl) (fun _ _ _ h => h) (Or.inl ⟨by rfl, ?_⟩) hHeld ?_ ?_
    rotate_left
    · rintro w' ⟨s0, s1, s2, s3, s4⟩; go_simp; with_reducible rfl
    rotate_left
    · simp only [Act.put, List.setIfInBounds_toArray, List.set_cons_zero, List.set_cons_succ, i64_w, i32_w]; rfl
    refine pure_ (i := 3) (N := some 34) (v := ?_) (a' := ?_) #[true, true, false, true, false, false, false, false, false] rfl rfl (by kernel_rfl) (fun _ _ _ h => h) (Or.inl ⟨by rfl, ?_⟩) ?_ ?_
    rotate_left
    · intro w'; go_simp; with_reducible rfl
    rotate_left
    · simp only [Act.put, List.setIfInBounds_toArray, List.set_cons_zero, List.set_cons_succ, i64_w, i32_w]; rfl
    refine take_ (i := 4) (N := some 35) (v := ?_) (a' := ?_) #[true, true, false, true, true, false, false, false, false] rfl rfl (by kernel_rfl) (fun _ _ _ h => h) (Or.inl ⟨by rfl, ?_⟩) hHeld ?_ ?_
    rotate_left
    · rintro w' ⟨s0, s1, s2, s3, s4⟩; go_simp; with_reducible rfl
    rotate_left
    · simp only [Act.put, List.setIfInBounds_toArray, List.set_cons_zero, List.set_cons_succ, i64_w, i32_w]; rfl
    refine one_ (i := 2) (N := some 33) #[true, true, true, true, true, false, false, false, false] rfl rfl (by kernel_rfl) (by decide) (fun K hK => ?_)
    refine goes_ Tryz.func180 (by kernel_rfl) rfl #[.pointer (some ⟨g, 0, none⟩), .agg #[.int .i64 (t.getD VT.rangeN).kind, .bool (t.getD VT.rangeN).is, .string (t.getD VT.rangeN).text, .slice D m3 cp3, .slice D' m3' cp3'], .string VT.startN] (by rfl) rfl rfl (by (try simp only [List.map_toArray, List.map_cons, List.map_nil]); first | done | rfl) ?_
    refine (place_any (t.getD VT.rangeN) VT.startN w5 _ _ g _ HVA.out (fun x hx => Nat.lt_of_lt_of_le hx.2 HZ4.out) HRA.out (by have := HDB.out; omega)).mono ?_
    rintro e w6 ⟨rfl, hrd, hbu⟩
    refine ⟨_, rfl, ?_⟩
    replace HXA := Lib.hid (HXA.out.but hbu hgx)
    replace HYA := Lib.hid (HYA.out.but hbu hgne)
    replace HEA := Lib.hid (HEA.out.but hbu hge)
    replace HVA := Lib.hid (HVA.out.but hbu (fun x hx => ⟨Nat.lt_of_lt_of_le hx.2 HZ4.out, by have := hx.1; have := HZW.out; omega⟩))
    replace HBA := Lib.hid (HBA.out.trans hbu)
    replace HRA := Lib.hid (HRA.out.but hbu hrd)
    replace HZ4 := Lib.hid (Nat.le_trans HZ4.out hbu.size)
    clear hrd hbu hHeld
    refine hK.out _ _ HXA.out.x5 (fun hHeld => ?_)
    clear hK K
    refine norm_ (a' := ?_) ?_ ?_
    rotate_left
    · show Act.put _ (some 33) _ = _; simp only [Act.put, List.setIfInBounds_toArray, List.set_cons_zero, List.set_cons_succ, i64_w, i32_w]; rfl
    refine one_ (i := 5) (N := some 36) #[true, true, true, true, true, true, false, false, false] rfl rfl (by kernel_rfl) (by decide) (fun K hK => ?_)
    refine goes_ Tryz.func180 (by kernel_rfl) rfl #[.pointer (some ⟨g, 0, none⟩), .agg #[.int .i64 (t.getD VT.rangeN).kind, .bool (t.getD VT.rangeN).is, .string (t.getD VT.rangeN).text, .slice D m3 cp3, .slice D' m3' cp3'], .string VT.endN] (by rfl) rfl rfl (by (try simp only [List.map_toArray, List.map_cons, List.map_nil]); first | done | rfl) ?_
    refine (place_any (t.getD VT.rangeN) VT.endN w6 _ _ g _ HVA.out (fun x hx => Nat.lt_of_lt_of_le hx.2 HZ4.out) HRA.out (by have := HDB.out; omega)).mono ?_
    rintro e w7 ⟨rfl, hrd, hbu⟩
    refine ⟨_, rfl, ?_⟩
    replace HXA := Lib.hid (HXA.out.but hbu hgx)
    replace HYA := Lib.hid (HYA.out.but hbu hgne)
    replace HEA := Lib.hid (HEA.out.but hbu hge)
    replace HVA := Lib.hid (HVA.out.but hbu (fun x hx => ⟨Nat.lt_of_lt_of_le hx.2 HZ4.out, by have := hx.1; have := HZW.out; omega⟩))
    replace HBA := Lib.hid (HBA.out.trans hbu)
    replace HRA := Lib.hid (HRA.out.but hbu hrd)
    replace HZ4 := Lib.hid (Nat.le_trans HZ4.out hbu.size)
    clear hrd hbu hHeld
    refine hK.out _ _ HXA.out.x5 (fun hHeld => ?_)
    clear hK K
    refine norm_ (a' := ?_) ?_ ?_
    rotate_left
    · show Act.put _ (some 36) _ = _; simp only [Act.put, List.setIfInBounds_toArray, List.set_cons_zero, List.set_cons_succ, i64_w, i32_w]; rfl
    refine pure_ (i := 6) (N := some 37) (v := ?_) (a' := ?_) #[true, true, true, true, true, true, true, false, false] rfl rfl (by kernel_rfl) (fun _ _ _ h => h) (Or.inl ⟨by rfl, ?_⟩) ?_ ?_
    rotate_left
    · intro w'; go_simp; with_reducible rfl
    rotate_left
    · simp only [Act.put, List.setIfInBounds_toArray, List.set_cons_zero, List.set_cons_succ, i64_w, i32_w]; rfl
    refine pure_ (i := 7) (N := some 38) (v := ?_) (a' := ?_) #[true, true, true, true, true, true, true, true, false] rfl rfl (by kernel_rfl) (fun _ _ _ h => h) (Or.inl ⟨by rfl, ?_⟩) ?_ ?_
    rotate_left
    · intro w'; go_simp; with_reducible rfl
    rotate_left
    · simp only [Act.put, List.setIfInBounds_toArray, List.set_cons_zero, List.set_cons_succ, i64_w, i32_w]; rfl
    refine last_ (i := 8) (N := none) #[true, true, true, true, true, true, true, true, true] rfl rfl (by kernel_rfl) (by decide) (fun K hK => ?_)
    have f1 := HEA.out.fr 1
    have f2 := HEA.out.fr 2
    have f3 := HEA.out.fr 3
    have f4 := HEA.out.fr 4
    have y1 := HEA.out.c 1 rfl
    have y2 := HEA.out.c 2 rfl
    have y3 := HEA.out.c 3 rfl
    have y4 := HEA.out.c 4 rfl
    refine skip_ (w1 := ?_) (by rfl) rfl ?_ ?_
    rotate_left
    · go_simp
      rfl
    refine hK.out _ _ ?_
    clear hK K
    refine done_ (by kernel_rfl) ?_
    clear f1 f2 f3 f4 y1 y2 y3 y4 hHeld
    generalize hl1 : (t.getD VT.rangeN).posL VT.startN = l1 at *
    generalize hl2 : (t.getD VT.rangeN).posC VT.startN = l2 at *
    generalize hl3 : (t.getD VT.rangeN).posL VT.endN = l3 at *
    generalize hl4 : (t.getD VT.rangeN).posC VT.endN = l4 at *
    clear hl1 hl2 hl3 hl4
    -- e, with its range
    have hE1 := (((HEA.out.set 1 (.int .i64 l1) rfl).set 2 (.int .i64 l2) rfl).set 3 (.int .i64 l3) rfl).set 4 (.int .i64 l4) rfl
    have hY1 := (((HYA.out.far (p := ⟨ge, 1, none⟩) (.int .i64 l1) hge2).far (p := ⟨ge, 2, none⟩) (.int .i64 l2) hge2).far (p := ⟨ge, 3, none⟩) (.int .i64 l3) hge2).far (p := ⟨ge, 4, none⟩) (.int .i64 l4) hge2
    have hw0 : w.heap.size ≤ ge := by have := HZ1.out; omega
    have hB1 := (((HBA.out.far ⟨ge, 1, none⟩ (.int .i64 l1) hw0).far ⟨ge, 2, none⟩ (.int .i64 l2) hw0).far ⟨ge, 3, none⟩ (.int .i64 l3) hw0).far ⟨ge, 4, none⟩ (.int .i64 l4) hw0
    have hge' : g ≠ ge := fun e => hge e.symm
    have hR1 := (((HRA.out.rd.far (p := ⟨ge, 1, none⟩) (.int .i64 l1) hge').far (p := ⟨ge, 2, none⟩) (.int .i64 l2) hge').far (p := ⟨ge, 3, none⟩) (.int .i64 l3) hge').far (p := ⟨ge, 4, none⟩) (.int .i64 l4) hge'
    replace HEA : Hid (BK ((((w7.setCell ⟨ge, 1, none⟩ (.int .i64 l1)).setCell ⟨ge, 2, none⟩ (.int .i64 l2)).setCell ⟨ge, 3, none⟩ (.int .i64 l3)).setCell ⟨ge, 4, none⟩ (.int .i64 l4)) ge 106 #[.bool false, .int .i64 l1, .int .i64 l2, .int .i64 l3, .int .i64 l4, .string (t.getD VT.textN).text]) := hE1
    replace HYA := Lib.hid hY1
    replace HBA := Lib.hid hB1
    replace HRA := Lib.hid hR1
    clear hE1 hY1 hB1 hR1 HXA HVA HZ4
    generalize ((((w7.setCell ⟨ge, 1, none⟩ (.int .i64 l1)).setCell ⟨ge, 2, none⟩ (.int .i64 l2)).setCell ⟨ge, 3, none⟩ (.int .i64 l3)).setCell ⟨ge, 4, none⟩ (.int .i64 l4)) = w8 at *
    have e0 := HEA.out.c 0 rfl
    have e1 := HEA.out.c 1 rfl
    have e2 := HEA.out.c 2 rfl
    have e3 := HEA.out.c 3 rfl
    have e4 := HEA.out.c 4 rfl
    have e5 := HEA.out.c 5 rfl
    have y0 := HYA.out.c 0 rfl
    have y1 := HYA.out.c 1 rfl
    have y2 := HYA.out.c 2 rfl
    have y3 := HYA.out.c 3 rfl
    have y4 := HYA.out.c 4 rfl
    have y5 := HYA.out.c 5 rfl
    have f0 := HYA.out.fr 0
    have f1 := HYA.out.fr 1
    have f2 := HYA.out.fr 2
    have f3 := HYA.out.fr 3
    have f4 := HYA.out.fr 4
    have f5 := HYA.out.fr 5
    obtain ⟨r0, r1, r2, r3, r4, r5⟩ := HYA.out.six rfl (.bool false) (.int .i64 l1) (.int .i64 l2) (.int .i64 l3) (.int .i64 l4) (.string (t.getD VT.textN).text)
    have HBF := Lib.hid (setAll_but (w.heap.size + 1) (by omega) [.bool false, .int .i64 l1, .int .i64 l2, .int .i64 l3, .int .i64 l4, .string (t.getD VT.textN).text] w8 0 HBA.out)
    have HRF : Hid (RDB (setAll (w.heap.size + 1) w8 0 [.bool false, .int .i64 l1, .int .i64 l2, .int .i64 l3, .int .i64 l4, .string (t.getD VT.textN).text]) g (b || !t.editOk)) := Lib.hid (by
      refine RDB.eq ((setAll_same (S := (· = g)) (w.heap.size + 1) _ (fun x hx => by omega) _ 0 g rfl).trans HRA.out) ?_
      rw [HOK.out, ← HRH.out]
      cases b <;> cases t.hasK VT.textN 3 <;> cases t.hasK VT.rangeN 5 <;> cases (t.getD VT.rangeN).posOk VT.startN <;> cases (t.getD VT.rangeN).posOk VT.endN <;> rfl)
    have HFF : Hid (edV t.editOf = .agg #[.bool false, .int .i64 l1, .int .i64 l2, .int .i64 l3, .int .i64 l4, .string (t.getD VT.textN).text]) := Lib.hid (HF.out.trans (by rw [HTX.out]))
    go_wp2
    exact bodyPost_ret (v := .agg #[.bool false, .int .i64 l1, .int .i64 l2, .int .i64 l3, .int .i64 l4, .string (t.getD VT.textN).text]) (by simp [results, Tryz.results134, go_sem, r0, r1, r2, r3, r4, r5]) rfl ⟨by rw [HFF.out], HRF.out, HBF.out⟩
end Go.Proofs.YtfploakafbnigaaGreatDoor
namespace Go.Proofs.YtfploakafbnigaaGreatDoor
open Go.RowKit Val
set_option linter.unusedVariables false
set_option linter.unusedSimpArgs false

set_option maxRecDepth 100000 in
set_option maxHeartbeats 8000000 in
theorem refEdit_any (t : VT) (w : World) (S : Nat → Prop) (v : Value) (h : VAL w S t v) (hS : ∀ x, S x → x < w.heap.size) (hbk : t.bulk ≤ 999999980) :
    Calls Tryz.prog 135 #[v] w fun e w' => e = .returned (.tuple #[edV t.editOf, .bool t.editOk]) ∧ Below w.heap.size w w' := by
  have HT := Lib.hid (fun W (hb : Below w.heap.size w W) => refText_any t VT.textN W S v (h.on hS hb) (fun b hb' => Nat.lt_of_lt_of_le (hS b hb') hb.size) (by omega))
  have HG := Lib.hid (fun W (hb : Below w.heap.size w W) => refGet_any t VT.rangeN W S v (h.on hS hb) (fun b hb' => Nat.lt_of_lt_of_le (hS b hb') hb.size) (by omega))
  have hdb : (t.getD VT.rangeN).bulk ≤ 999999981 := by have := VT.getD_bulk t VT.rangeN; omega
  have HDB := Lib.hid hdb
  obtain ⟨A, n, cap, A', n', cap', rfl⟩ := h.parts
  clear h hS hbk hdb
  go_enter Tryz.func135, Tryz.ntmps135
  go_wp2_with fail
  have hB0 := al2_below w (.cells #[.int .i64 t.kind, .bool t.is, .string t.text, .slice A n cap, .slice A' n' cap'] 25) (.cells #[.bool false, .int .i64 0, .int .i64 0, .int .i64 0, .int .i64 0, .string ⟨#[]⟩] 106)
  have HY0 : Hid (BK _ (w.heap.size + 1) 106 #[.bool false, .int .i64 0, .int .i64 0, .int .i64 0, .int .i64 0, .string ⟨#[]⟩]) := Lib.hid (al2_1 w (.cells #[.int .i64 t.kind, .bool t.is, .string t.text, .slice A n cap, .slice A' n' cap'] 25) (.cells #[.bool false, .int .i64 0, .int .i64 0, .int .i64 0, .int .i64 0, .string ⟨#[]⟩] 106))
  have HX0 : Hid (BX _ w.heap.size (.int .i64 t.kind) (.bool t.is) (.string t.text) (.slice A n cap) (.slice A' n' cap')) := Lib.hid (al2_0 w (.cells #[.int .i64 t.kind, .bool t.is, .string t.text, .slice A n cap, .slice A' n' cap'] 25) (.cells #[.bool false, .int .i64 0, .int .i64 0, .int .i64 0, .int .i64 0, .string ⟨#[]⟩] 106))
  have HB0 := Lib.hid hB0
  refine (HT.out _ hB0).mono ?_
  clear hB0
  rintro e w1 ⟨rfl, hb⟩
  have HB1 := Lib.hid (HB0.out.trans (hb.mono HB0.out.size))
  have HY1 := Lib.hid (HY0.out.on hb)
  have HX1 := Lib.hid (HX0.out.on hb)
  have x0 := HX1.out.c0
  have x1 := HX1.out.c1
  have x2 := HX1.out.c2
  have x3 := HX1.out.c3
  have x4 := HX1.out.c4
  clear hb HT HY0 HB0 HX0
  go_wp2_with fail
  refine (HG.out _ HB1.out).mono ?_
  rintro e w2 ⟨v', rfl, hv, hb⟩
  obtain ⟨C, m2, cp2, C', m2', cp2', rfl⟩ := hv.parts
  have HB2 := Lib.hid (HB1.out.trans (hb.mono HB1.out.size))
  have HY2 := Lib.hid (HY1.out.on hb)
  have HV2 := Lib.hid (hv.mono (S' := fun b => b < w2.heap.size) New_old)
  clear hv hb HG HY1 HB1 HX1 x0 x1 x2 x3 x4
  have HA := Lib.hid ((Below.refl w2.heap.size w2).alloc (Nat.le_refl _) (.cells #[.int .i64 (t.getD VT.rangeN).kind, .bool (t.getD VT.rangeN).is, .string (t.getD VT.rangeN).text, .slice C m2 cp2, .slice C' m2' cp2'] 25))
  have HXA := Lib.hid (BX.new w2 (.int .i64 (t.getD VT.rangeN).kind) (.bool (t.getD VT.rangeN).is) (.string (t.getD VT.rangeN).text) (.slice C m2 cp2) (.slice C' m2' cp2'))
  have HYA := Lib.hid (HY2.out.on HA.out)
  have HVA := Lib.hid (HV2.out.on (fun b hb => hb) HA.out)
  have HBA := Lib.hid (HB2.out.trans (HA.out.mono HB2.out.size))
  have HZA := Lib.hid HA.out.size
  go_upto_region 3 with (fail)
  generalize (w2.alloc (.cells #[.int .i64 (t.getD VT.rangeN).kind, .bool (t.getD VT.rangeN).is, .string (t.getD VT.rangeN).text, .slice C m2 cp2, .slice C' m2' cp2'] 25)) = W at *
  generalize hz2 : w2.heap.size = z2 at *
  clear HA HY2 HB2 hz2 HV2
  have HBR := Lib.hid (show t.bare = (!(t.get VT.rangeN).isSome || decide ((t.getD VT.rangeN).kind = 0)) from rfl)
  have key : ∀ (P : Prop), (t.bare = true → ((t.get VT.rangeN).isSome = false ∨ ((t.get VT.rangeN).isSome = true ∧ (t.getD VT.rangeN).kind = 0)) → P) → (t.bare = false → (t.get VT.rangeN).isSome = true → ¬ (t.getD VT.rangeN).kind = 0 → P) → P := fun P h1 h2 => by
    cases hq : (t.get VT.rangeN).isSome
    · exact h1 (by rw [HBR.out, hq]; rfl) (.inl hq)
    · by_cases hk : (t.getD VT.rangeN).kind = 0
      · exact h1 (by rw [HBR.out, hq, hk]; rfl) (.inr ⟨hq, hk⟩)
      · exact h2 (by rw [HBR.out, hq, decide_eq_false hk]; rfl) hq hk
  have x0 := HXA.out.c0
  have x1 := HXA.out.c1
  have x2 := HXA.out.c2
  have x3 := HXA.out.c3
  have x4 := HXA.out.c4
  refine key _ ?_ ?_
  · intro hbare hcase
    have HF := Lib.hid (editOf_bare hbare)
    have HOK := Lib.hid (editOk_bare hbare)
    have y0 := HYA.out.c 0 rfl
    have y1 := HYA.out.c 1 rfl
    have y2 := HYA.out.c 2 rfl
    have y3 := HYA.out.c 3 rfl
    have y4 := HYA.out.c 4 rfl
    have y5 := HYA.out.c 5 rfl
    have f0 := HYA.out.fr 0
    have f1 := HYA.out.fr 1
    have f2 := HYA.out.fr 2
    have f3 := HYA.out.fr 3
    have f4 := HYA.out.fr 4
    have f5 := HYA.out.fr 5
    obtain ⟨r0, r1, r2, r3, r4, r5⟩ := HYA.out.six rfl (.bool true) (.int .i64 0) (.int .i64 0) (.int .i64 0) (.int .i64 0) (.string (t.textOf VT.textN))
    have HBF := Lib.hid (setAll_below (w.heap.size + 1) (by omega) [.bool true, .int .i64 0, .int .i64 0, .int .i64 0, .int .i64 0, .string (t.textOf VT.textN)] W 0 HBA.out)
    clear hbare key
    generalize hq : (t.get VT.rangeN).isSome = q at *
    generalize hkk : (t.getD VT.rangeN).kind = kk at *
    generalize hs : t.hasK VT.textN 3 = s at *
    clear hq hkk hs
    rcases hcase with h0 | ⟨h0, h1⟩
    · subst h0
      go_wp2
      exact bodyPost_ret (v := .tuple #[.agg #[.bool true, .int .i64 0, .int .i64 0, .int .i64 0, .int .i64 0, .string (t.textOf VT.textN)], .bool s]) (by simp [results, Tryz.results135, go_sem, r0, r1, r2, r3, r4, r5]) rfl ⟨by rw [HF.out, HOK.out], HBF.out⟩
    · subst h0
      obtain ⟨k1, k2⟩ := int_eq h1
      subst h1
      go_wp2
      exact bodyPost_ret (v := .tuple #[.agg #[.bool true, .int .i64 0, .int .i64 0, .int .i64 0, .int .i64 0, .string (t.textOf VT.textN)], .bool s]) (by simp [results, Tryz.results135, go_sem, r0, r1, r2, r3, r4, r5]) rfl ⟨by rw [HF.out, HOK.out], HBF.out⟩
  · intro hbare hh hk0
    have HF := Lib.hid (editOf_range hbare)
    have HOK := Lib.hid (editOk_range hbare)
    obtain ⟨k1, k2⟩ := int_ne hk0
    rw [hh]
    clear hbare key hh hk0
    have HC := Lib.hid (fun nn W' (hb : Below W.heap.size W W') => refPlace_any (t.getD VT.rangeN) nn W' _ _ (HVA.out.on (fun b hb => Nat.lt_of_lt_of_le hb HZA.out) hb) (fun b hb' => Nat.lt_of_lt_of_le (Nat.lt_of_lt_of_le hb' HZA.out) hb.size) (by have := HDB.out; omega))
    have HZW := Lib.hid (show w.heap.size + 1 < W.heap.size from HYA.out.lt)
    go_wp2_with fail
    refine (HC.out VT.startN _ (Below.refl _ _)).mono ?_
    rintro e w3 ⟨rfl, hb⟩
    have HB3 := Lib.hid hb
    have HX3 := Lib.hid (HXA.out.on hb)
    have HY3 := Lib.hid (HYA.out.on hb)
    clear x0 x1 x2 x3 x4 hb
    generalize hl1 : (t.getD VT.rangeN).posL VT.startN = l1 at *
    generalize hl2 : (t.getD VT.rangeN).posC VT.startN = l2 at *
    clear hl1 hl2
    -- a, boxed
    have hA := (Below.refl w3.heap.size w3).alloc (Nat.le_refl _) (.cells #[.int .i64 l1, .int .i64 l2] 39)
    have HP3 := Lib.hid (BK.new w3 39 #[.int .i64 l1, .int .i64 l2])
    replace HX3 := Lib.hid (HX3.out.on hA)
    replace HY3 := Lib.hid (HY3.out.on hA)
    replace HB3 := Lib.hid (HB3.out.trans (hA.mono HB3.out.size))
    clear hA
    go_upto_region 6 with (fail)
    generalize (w3.alloc (.cells #[.int .i64 l1, .int .i64 l2] 39)) = w4 at *
    generalize hz3 : w3.heap.size = z3 at *
    have x0 := HX3.out.c0
    have x1 := HX3.out.c1
    have x2 := HX3.out.c2
    have x3 := HX3.out.c3
    have x4 := HX3.out.c4
    go_wp2_with fail
    refine (HC.out VT.endN _ HB3.out).mono ?_
    rintro e w5 ⟨rfl, hb⟩
    have HB5 := Lib.hid (HB3.out.trans (hb.mono HB3.out.size))
    have HY5 := Lib.hid (HY3.out.on hb)
    have HP5 := Lib.hid (HP3.out.on hb)
    clear x0 x1 x2 x3 x4 hb hz3 HC HX3 HY3 HP3 HB3
    generalize hl3 : (t.getD VT.rangeN).posL VT.endN = l3 at *
    generalize hl4 : (t.getD VT.rangeN).posC VT.endN = l4 at *
    clear hl3 hl4
    have hA := (Below.refl w5.heap.size w5).alloc (Nat.le_refl _) (.cells #[.int .i64 l3, .int .i64 l4] 39)
    have HQ5 := Lib.hid (BK.new w5 39 #[.int .i64 l3, .int .i64 l4])
    replace HP5 := Lib.hid (HP5.out.on hA)
    replace HY5 := Lib.hid (HY5.out.on hA)
    replace HB5 := Lib.hid (HB5.out.trans (hA.mono HB5.out.size))
    clear hA
    go_upto_region 7 with (fail)
    generalize (w5.alloc (.cells #[.int .i64 l3, .int .i64 l4] 39)) = w6 at *
    generalize hz5 : w5.heap.size = z5 at *
    have p0 := HP5.out.c 0 rfl
    have p1 := HP5.out.c 1 rfl
    have q0 := HQ5.out.c 0 rfl
    have q1 := HQ5.out.c 1 rfl
    have y0 := HY5.out.c 0 rfl
    have y1 := HY5.out.c 1 rfl
    have y2 := HY5.out.c 2 rfl
    have y3 := HY5.out.c 3 rfl
    have y4 := HY5.out.c 4 rfl
    have y5 := HY5.out.c 5 rfl
    have f0 := HY5.out.fr 0
    have f1 := HY5.out.fr 1
    have f2 := HY5.out.fr 2
    have f3 := HY5.out.fr 3
    have f4 := HY5.out.fr 4
    have f5 := HY5.out.fr 5
    obtain ⟨r0, r1, r2, r3, r4, r5⟩ := HY5.out.six rfl (.bool false) (.int .i64 l1) (.int .i64 l2) (.int .i64 l3) (.int .i64 l4) (.string (t.textOf VT.textN))
    have HBF := Lib.hid (setAll_below (w.heap.size + 1) (by omega) [.bool false, .int .i64 l1, .int .i64 l2, .int .i64 l3, .int .i64 l4, .string (t.textOf VT.textN)] w6 0 (HBA.out.trans (HB5.out.mono HBA.out.size)))
    clear hz5
    generalize hs1 : t.hasK VT.textN 3 = s1 at *
    generalize hs2 : (t.getD VT.rangeN).posOk VT.startN = s2 at *
    generalize hs3 : (t.getD VT.rangeN).posOk VT.endN = s3 at *
    clear hs1 hs2 hs3
    cases s1
    · have HOF := Lib.hid (HOK.out.trans (show _ = false from rfl))
      go_wp2
      exact bodyPost_ret (v := .tuple #[.agg #[.bool false, .int .i64 l1, .int .i64 l2, .int .i64 l3, .int .i64 l4, .string (t.textOf VT.textN)], .bool false]) (by simp [results, Tryz.results135, go_sem, r0, r1, r2, r3, r4, r5]) rfl ⟨by rw [HF.out, HOF.out], HBF.out⟩
    cases s2
    · have HOF := Lib.hid (HOK.out.trans (show _ = false from rfl))
      go_wp2
      exact bodyPost_ret (v := .tuple #[.agg #[.bool false, .int .i64 l1, .int .i64 l2, .int .i64 l3, .int .i64 l4, .string (t.textOf VT.textN)], .bool false]) (by simp [results, Tryz.results135, go_sem, r0, r1, r2, r3, r4, r5]) rfl ⟨by rw [HF.out, HOF.out], HBF.out⟩
    · have HOF := Lib.hid (HOK.out.trans (show _ = s3 from rfl))
      go_wp2
      exact bodyPost_ret (v := .tuple #[.agg #[.bool false, .int .i64 l1, .int .i64 l2, .int .i64 l3, .int .i64 l4, .string (t.textOf VT.textN)], .bool s3]) (by simp [results, Tryz.results135, go_sem, r0, r1, r2, r3, r4, r5]) rfl ⟨by rw [HF.out, HOF.out], HBF.out⟩
end Go.Proofs.YtfploakafbnigaaGreatDoor
namespace Go.Proofs.YtfploakafbnigaaGreatDoor
open Go.RowKit Val
set_option linter.unusedVariables false
set_option linter.unusedSimpArgs false

theorem own_but {w w' : World} {g base e size n : Nat} {v : Value} {xs : List Value} (h : w.ownsRow base e size v n xs) (hb : But g w w') (hg : g < base) : w'.ownsRow base e size v n xs := by
  obtain ⟨h1, h2⟩ := h
  refine ⟨h1, ?_⟩
  rcases h2 with h2 | ⟨b, cap, cur, rfl, hbb, hh, h3⟩
  · exact .inl h2
  · exact .inr ⟨b, cap, cur, rfl, hbb, by rw [hb.block b (Array.getElem?_eq_some_iff.1 hh).1 (by omega)]; exact hh, h3⟩
theorem Tryz.infoE : (Tryz.prog.info? 106).map (fun i => (i.zero, i.size, i.bytes)) = some (some (.agg #[.bool false, .int .i64 0, .int .i64 0, .int .i64 0, .int .i64 0, .string .empty]), 6, 56) := by kernel_rfl
/-- a row of edits -/
def ES (w : World) (S : Nat → Prop) (A : Option Addr) (l : List VT.Ed) : Prop :=
  l = [] ∨ ∃ b off, A = some ⟨b, off, none⟩ ∧ S b ∧ ∀ (j : Nat) (h : j < l.length), w.cell? ⟨b, off + j * 6, none⟩ = some (.bool l[j].whole) ∧ w.cell? ⟨b, off + j * 6 + 1, none⟩ = some (.int .i64 l[j].a) ∧ w.cell? ⟨b, off + j * 6 + 2, none⟩ = some (.int .i64 l[j].b) ∧
    w.cell? ⟨b, off + j * 6 + 3, none⟩ = some (.int .i64 l[j].c) ∧ w.cell? ⟨b, off + j * 6 + 4, none⟩ = some (.int .i64 l[j].d) ∧ w.cell? ⟨b, off + j * 6 + 5, none⟩ = some (.string l[j].text)
theorem ES.same {w w' : World} {S S' : Nat → Prop} {A : Option Addr} {l : List VT.Ed} (h : ES w S A l) (hs : Same S w w') (hS : ∀ b, S b → S' b) : ES w' S' A l := by
  rcases h with h | ⟨b, off, e, h1, hc⟩
  · exact .inl h
  · have g : ∀ o, w'.cell? ⟨b, o, none⟩ = w.cell? ⟨b, o, none⟩ := fun o => World.cell?_of_block (w := w) (hs b h1)
    exact .inr ⟨b, off, e, hS b h1, fun j hj => by
      obtain ⟨c0, c1, c2, c3, c4, c5⟩ := hc j hj
      exact ⟨(g _).trans c0, (g _).trans c1, (g _).trans c2, (g _).trans c3, (g _).trans c4, (g _).trans c5⟩⟩
def edCs (l : List VT.Ed) : List Value := l.flatMap edC
theorem edCs_snoc (l : List VT.Ed) (e : VT.Ed) : edCs (l ++ [e]) = edCs l ++ edC e := by simp [edCs]
theorem edCs_length (l : List VT.Ed) : (edCs l).length = l.length * 6 := by
  induction l with
  | nil => rfl
  | cons x l ih => show (edC x ++ edCs l).length = _; rw [List.length_append, ih]; simp [edC]; omega
theorem edCs_get (l : List VT.Ed) (j : Nat) (h : j < l.length) (i : Nat) (hi : i < 6) : (edCs l)[j * 6 + i]? = (edC l[j])[i]? := by
  induction l generalizing j with
  | nil => simp at h
  | cons x l ih =>
    show (edC x ++ edCs l)[j * 6 + i]? = _
    cases j with
    | zero => rw [List.getElem?_append_left (by simp [edC]; omega)]; simp
    | succ j =>
      rw [List.getElem?_append_right (by simp [edC]; omega), show (j + 1) * 6 + i - (edC x).length = j * 6 + i by simp [edC]; omega, ih j (by simpa using h)]
      rfl
theorem ES_of_own {w : World} {base : Nat} {e : TypeId} {S' : Nat → Prop} {ov : Value} {l : List VT.Ed} (h : w.ownsRow base e 6 ov l.length (edCs l)) (hb : ∀ b, ov.ownBlock = some b → S' b) :
    ∃ A cap, ov = .slice A l.length cap ∧ ES w S' A l := by
  have h2 := h.2
  rcases h2 with ⟨rfl, h0⟩ | ⟨g, cap, cur, rfl, hbg, hh, hn, hm, hcs, htk⟩
  · rw [h0]; exact ⟨none, 0, rfl, .inl (List.eq_nil_of_length_eq_zero h0)⟩
  · refine ⟨some ⟨g, 0, none⟩, cap, rfl, .inr ⟨g, 0, rfl, hb g rfl, fun j hj => ?_⟩⟩
    have k : ∀ i u, i < 6 → (edC l[j])[i]? = some u → w.cell? ⟨g, 0 + j * 6 + i, none⟩ = some u := fun i u hi hu => by
      rw [Nat.zero_add]
      exact own_cell h _ _ (by rw [edCs_get l j hj i hi]; exact hu)
    exact ⟨k 0 _ (by omega) rfl, k 1 _ (by omega) rfl, k 2 _ (by omega) rfl, k 3 _ (by omega) rfl, k 4 _ (by omega) rfl, k 5 _ (by omega) rfl⟩
theorem edC_one (e : VT.Ed) : ∀ u ∈ edC e, u.oneCell' = true := by
  intro u hu
  simp only [edC, List.mem_cons, List.mem_nil_iff, or_false] at hu
  rcases hu with h | h | h | h | h | h <;> subst h <;> rfl
theorem ed_neq (e : VT.Ed) (W : World) : (binOp .neq 106 (edV e) (edV e)).run Tryz.prog W = .ok (.bool false) W := by
  obtain ⟨wh, a, b, c, d, tx⟩ := e
  unfold edV
  rw [run_neq_struct]
  simp [go_sem]

set_option maxRecDepth 100000 in
set_option maxHeartbeats 2000000 in
/-- two rows of the same edits are the same -/
theorem SameEdits_true (A A' : Option Addr) (c c' : Nat) (S S' : Nat → Prop) (l : List VT.Ed) (w : World) (hl : ES w S A l) (hr : ES w S' A' l) (hn : l.length ≤ 1073741824) :
    Calls Tryz.prog 65 #[.slice A l.length c, .slice A' l.length c'] w fun e w' => e = .returned (.bool true) ∧ ∃ n, w' = w.drewN n := by
  have hq : ((l.length : Int) != (l.length : Int)) = false := by simp
  have HL := Lib.hid hl
  have HR := Lib.hid hr
  clear hl hr
  go_enter Tryz.func65, Tryz.ntmps65
  go_wp2
  go_loopg [5] l.length (fun k v wr => ∃ p : Nat, p + k = l.length ∧ v = .int .i64 p ∧ ∃ n, wr = w.drewN n)
  case atStart => exact ⟨0, by omega, rfl, ⟨0, rfl⟩⟩
  case round =>
    obtain ⟨p, hk, rfl, ⟨n, rfl⟩⟩ := hrel
    have HK := Lib.hid hk
    clear hk
    by_cases hlt : p < l.length
    · have e1 : (p : Int) < (l.length : Int) := by omega
      have e0 : (0 : Int) ≤ p := by omega
      rcases HL.out with h | ⟨b, off, rfl, -, hc⟩
      · subst h; simp at hlt
      rcases HR.out with h | ⟨b', off', rfl, -, hc'⟩
      · subst h; simp at hlt
      obtain ⟨k0, k1, k2, k3, k4, k5⟩ := hc p hlt
      obtain ⟨j0, j1, j2, j3, j4, j5⟩ := hc' p hlt
      clear hc hc'
      have hne := ed_neq l[p]
      unfold edV at hne
      generalize l[p] = z at *
      obtain ⟨wh, ea, eb, ec, ed, tx⟩ := z
      simp only at k0 k1 k2 k3 k4 k5 j0 j1 j2 j3 j4 j5 hne
      go_wp2_with fail
      go_quiet (fail)
      go_wp2
      go_roundg (gk - 1)
      case measure => have := HK.out; omega
      case rel => exact ⟨p + 1, by have := HK.out; omega, by go_num, ⟨n + nq, by simp⟩⟩
    · have h1 : decide (p < l.length) = false := by simp; omega
      go_wp2
      go_ret
      exact ⟨rfl, n, rfl⟩
end Go.Proofs.YtfploakafbnigaaGreatDoor
namespace Go.Proofs.YtfploakafbnigaaGreatDoor
open Go.RowKit Val
set_option linter.unusedVariables false
set_option linter.unusedSimpArgs false

/-- what is said of a document that is changed, or nothing -/
def ChangeP (t : VT) (w : World) (e : Ending) (w' : World) : Prop := Below w.heap.size w w' ∧
  ((t.changeOk = true ∧ ∃ A cap, e = .returned (.tuple #[.string t.uri, .int .i64 (t.doc.wholeN VT.versionN), .slice A (t.chg.edits t.chg.n).length cap, .int .i64 0]) ∧ ES w' (New w w') A (t.chg.edits t.chg.n)) ∨
   (t.changeOk = false ∧ e = .returned (.tuple #[.string ⟨#[]⟩, .int .i64 0, .slice none 0 0, .int .i64 130])))
theorem ChangeP.bad {t : VT} {w w' : World} (h : t.changeOk = false) (hb : Below w.heap.size w w') : ChangeP t w (.returned (.tuple #[.string ⟨#[]⟩, .int .i64 0, .slice none 0 0, .int .i64 130])) w' := ⟨hb, .inr ⟨h, rfl⟩⟩
/-- the loop's memory -/
structure ChR (w W : World) (g z0 : Nat) (t : VT) (A : Option Addr) (n : Nat) (c : Nat → VT) (p : Nat) (ov : Value) : Prop where
  rd : Rd W g (!VT.allTo (fun j => (c j).editOk) p)
  below : Below w.heap.size w W
  val : VS W (fun b => g < b ∧ b < z0) A n c
  own : W.ownsRow z0 106 6 ov p (edCs (t.chg.edits p))
  size : z0 ≤ W.heap.size
theorem VS.but {w w' : World} {g : Nat} {S : Nat → Prop} {A : Option Addr} {n : Nat} {c : Nat → VT} (h : VS w S A n c) (hb : But g w w') (hS : ∀ b, S b → b < w.heap.size ∧ b ≠ g) : VS w' S A n c := h.same (hb.same hS)

set_option maxRecDepth 100000 in
set_option maxHeartbeats 8000000 in
theorem Change_any (t : VT) (w : World) (S : Nat → Prop) (v : Value) (h : VAL w S t v) (hS : ∀ b, S b → b < w.heap.size) (hM : ML w) (hbk : t.bulk ≤ 999999970) :
    Calls Tryz.prog 63 #[v] w (ChangeP t w) := by
  have HV := Lib.hid h
  have HS := Lib.hid hS
  have HM := Lib.hid hM
  have HK := Lib.hid hbk
  have hdb : t.doc.bulk ≤ 999999971 := by have := VT.getD_bulk t VT.tdN; unfold VT.doc; omega
  have hcb : t.chg.bulk ≤ 999999971 := by have := VT.getD_bulk t VT.changesN; unfold VT.chg; omega
  have HDB := Lib.hid hdb
  have HCB := Lib.hid hcb
  obtain ⟨A, n, cap, A', n', cap', rfl⟩ := h.parts
  clear h hS hM hbk hdb hcb
  have fl := fieldList
  go_enter Tryz.func63, Tryz.ntmps63
  go_wp2_with fail
  have HB0 := Lib.hid (al2_below w (.cells #[.int .i64 t.kind, .bool t.is, .string t.text, .slice A n cap, .slice A' n' cap'] 25) (.cells #[.bool false] 156))
  have HR0 : Hid (Rd ((w.alloc (.cells #[.int .i64 t.kind, .bool t.is, .string t.text, .slice A n cap, .slice A' n' cap'] 25)).alloc (.cells #[.bool false] 156)) (w.heap.size + 1) false) := Lib.hid (by
    have := rd_new (w := w) (W := w.alloc (.cells #[.int .i64 t.kind, .bool t.is, .string t.text, .slice A n cap, .slice A' n' cap'] 25)) (HM.out.on ((Below.refl _ _).alloc (Nat.le_refl _) _))
    rwa [show (w.alloc (.cells #[.int .i64 t.kind, .bool t.is, .string t.text, .slice A n cap, .slice A' n' cap'] 25)).heap.size = w.heap.size + 1 by simp] at this)
  have HX0 : Hid (BX _ w.heap.size (.int .i64 t.kind) (.bool t.is) (.string t.text) (.slice A n cap) (.slice A' n' cap')) := Lib.hid (al2_0 w (.cells #[.int .i64 t.kind, .bool t.is, .string t.text, .slice A n cap, .slice A' n' cap'] 25) (.cells #[.bool false] 156))
  have HZ0 : Hid (w.heap.size + 2 ≤ ((w.alloc (.cells #[.int .i64 t.kind, .bool t.is, .string t.text, .slice A n cap, .slice A' n' cap'] 25)).alloc (.cells #[.bool false] 156)).heap.size) := Lib.hid (by simp)
  have HV0 := Lib.hid (HV.out.on HS.out HB0.out)
  refine (document_any t _ S _ (w.heap.size + 1) false HV0.out (fun b hb => Nat.lt_of_lt_of_le (HS.out b hb) HB0.out.size) HR0.out (by have := HK.out; omega)).mono ?_
  rintro e w1 ⟨v', rfl, hv, hrd, hbu⟩
  obtain ⟨B, m, cp, B', m', cp', rfl⟩ := hv.parts
  have HB1 := Lib.hid (hbu.below HB0.out (by omega) HB0.out.size)
  have HR1 := Lib.hid (HR0.out.but hbu hrd)
  have HX1 := Lib.hid (HX0.out.but hbu (by omega))
  have HV1 := Lib.hid (HV0.out.but hbu (fun b hb => ⟨Nat.lt_of_lt_of_le (HS.out b hb) HB0.out.size, by have := HS.out b hb; omega⟩))
  have HZ1 := Lib.hid (Nat.le_trans HZ0.out hbu.size)
  have HD1 := Lib.hid (hv.mono (S' := fun b => w.heap.size + 2 ≤ b ∧ b < w1.heap.size) (fun b hb => ⟨Nat.le_trans HZ0.out hb.1, hb.2⟩))
  clear hv hbu HR0 HB0 hrd HZ0 HX0 HV0
  -- the document, boxed
  have hA := (Below.refl w1.heap.size w1).alloc (Nat.le_refl _) (.cells #[.int .i64 t.doc.kind, .bool t.doc.is, .string t.doc.text, .slice B m cp, .slice B' m' cp'] 25)
  replace HD1 := Lib.hid (HD1.out.on (fun b hb => hb.2) hA)
  replace HR1 := Lib.hid (HR1.out.on hA)
  replace HX1 := Lib.hid (HX1.out.on hA)
  replace HV1 := Lib.hid (HV1.out.on (fun b hb => Nat.lt_of_lt_of_le (HS.out b hb) HB1.out.size) hA)
  have HBA := Lib.hid (HB1.out.trans (hA.mono HB1.out.size))
  have HZA := Lib.hid hA.size
  clear hA HB1
  go_wp2_with fail
  refine (whole_any t.doc VT.versionN 9007199254740991 _ _ _ (w.heap.size + 1) (false || !t.uriOk) HD1.out (fun b hb => Nat.lt_of_lt_of_le hb.2 HZA.out) HR1.out (by have := HDB.out; omega)).mono ?_
  rintro e w2 ⟨rfl, hrd, hbu⟩
  have HB2 := Lib.hid (hbu.below HBA.out (by omega) HBA.out.size)
  have HX2 := Lib.hid (HX1.out.but hbu (by omega))
  have HR2 := Lib.hid (HR1.out.but hbu hrd)
  have HV2 := Lib.hid (HV1.out.but hbu (fun b hb => ⟨Nat.lt_of_lt_of_le (HS.out b hb) HBA.out.size, by have := HS.out b hb; omega⟩))
  have HZ2 := Lib.hid (Nat.le_trans HZ1.out (Nat.le_trans HZA.out hbu.size))
  have x0 := HX2.out.c0
  have x1 := HX2.out.c1
  have x2 := HX2.out.c2
  have x3 := HX2.out.c3
  have x4 := HX2.out.c4
  clear hrd hbu HX1 HD1 HR1 HBA HZA HV1
  go_wp2_with fail
  refine (member_any t VT.changesN 4 _ _ _ (w.heap.size + 1) _ HV2.out (fun b hb => Nat.lt_of_lt_of_le (HS.out b hb) HB2.out.size) HR2.out.rd (by have := HK.out; omega)).mono ?_
  rintro e w3 ⟨v3, rfl, hv, hrd, hbu⟩
  have hv : VAL w3 _ t.chg v3 := hv
  have HB3 := Lib.hid (hbu.below HB2.out (by omega) HB2.out.size)
  have HR3 := Lib.hid (HR2.out.but hbu hrd)
  have HZ3 := Lib.hid (Nat.le_trans HZ2.out hbu.size)
  have hroot := hv.root
  obtain ⟨ck, ci, cx, cn, cc, cm, hroot⟩ := hroot
  have HCN := Lib.hid (show t.chg.n = cn by rw [hroot]; rfl)
  have HCC := Lib.hid (show t.chg.kids = cc by rw [hroot]; rfl)
  have HCBK := Lib.hid (fun j (hj : j < cn) => show (cc j).bulk ≤ 999999980 from by have := VT.bulk_kid ck ci cx cn cc cm j hj; have h2 := HCB.out; rw [hroot] at h2; omega)
  rw [hroot] at hv
  obtain ⟨CA, ccap, CA', ccap', rfl, -, -, hvs⟩ := hv.open
  have HVS := Lib.hid (hvs.mono (S' := fun b => w.heap.size + 1 < b ∧ b < w3.heap.size) (fun b hb => ⟨by have := hb.1; have := HZ2.out; omega, hb.2⟩))
  have HOK1 := Lib.hid (show t.changeOk1 = (t.uriOk && t.doc.wholeOk VT.versionN 9007199254740991 && t.hasK VT.changesN 4 && decide (cn ≤ 32)) by unfold VT.changeOk1; rw [HCN.out])
  have HOK := Lib.hid (show t.changeOk = (t.changeOk1 && VT.allTo (fun j => (cc j).editOk) cn) by unfold VT.changeOk; rw [HCN.out, HCC.out])
  have HMU := fun ok => Lib.hid (must_any (w.heap.size + 1) _ ok w3 HR3.out.rd)
  clear hv hvs hrd hbu hroot x0 x1 x2 x3 x4 HX2 HR2 HV2
  have hne : w.heap.size + 1 < w3.heap.size := by have := HZ3.out; omega
  by_cases h32 : ¬ cn ≤ 32
  · have d1 : decide (cn ≤ 32) = false := decide_eq_false h32
    have d2 : decide ((cn : Int) ≤ 32) = false := by simp; omega
    have HF : Hid (t.changeOk = false) := Lib.hid (by rw [HOK.out, HOK1.out, d1]; simp)
    clear h32
    go_wp2_with fail
    refine ((HMU false).out).mono ?_
    rintro e w4 ⟨rfl, hrd, hbu⟩
    have HB4 := Lib.hid (hbu.below HB3.out (by omega) HB3.out.size)
    have c0 := hrd.c
    rw [show ∀ q : Bool, (q || !false) = true from fun q => by simp] at c0
    clear hrd hbu HMU
    go_wp2
    exact bodyPost_ret (v := .tuple #[.string ⟨#[]⟩, .int .i64 0, .slice none 0 0, .int .i64 130]) (by simp [results, Tryz.results63, go_sem]) rfl (ChangeP.bad HF.out HB4.out)
  replace h32 := Classical.not_not.1 h32
  have d1 : decide (cn ≤ 32) = true := decide_eq_true h32
  have d2 : decide ((cn : Int) ≤ 32) = true := by simp; omega
  go_wp2_with fail
  refine ((HMU true).out).mono ?_
  rintro e w4 ⟨rfl, hrd, hbu⟩
  have HB4 := Lib.hid (hbu.below HB3.out (by omega) HB3.out.size)
  have HR4 := Lib.hid (HR3.out.but hbu hrd)
  have HVS4 := Lib.hid (HVS.out.but hbu (fun b hb => ⟨hb.2, by have := hb.1; omega⟩))
  have HZ4 := Lib.hid hbu.size
  have hrd' : RDB w4 (w.heap.size + 1) (!t.changeOk1) := hrd.eq (by
    rw [HOK1.out, d1]; cases t.uriOk <;> cases t.doc.wholeOk VT.versionN 9007199254740991 <;> cases t.hasK VT.changesN 4 <;> rfl)
  have HRD := Lib.hid hrd'
  have c0 := hrd'.c
  clear hrd hbu HMU hrd' HR3 HVS
  cases hq1 : t.changeOk1
  · rw [hq1] at c0
    have HF : Hid (t.changeOk = false) := Lib.hid (by rw [HOK.out, hq1]; rfl)
    clear hq1
    go_wp2
    exact bodyPost_ret (v := .tuple #[.string ⟨#[]⟩, .int .i64 0, .slice none 0 0, .int .i64 130]) (by simp [results, Tryz.results63, go_sem]) rfl (ChangeP.bad HF.out HB4.out)
  rw [hq1] at c0
  have HQ1 := Lib.hid hq1
  replace HR4 : Hid (Rd w4 (w.heap.size + 1) false) := Lib.hid ⟨HR4.out.ml, HR4.out.ne, by have := HRD.out; rw [hq1] at this; exact this⟩
  clear hq1 HRD
  generalize hg : w.heap.size + 1 = g at *
  have HGE := Lib.hid hg
  clear hg
  go_wp2_with fail
  clear c0
  obtain ⟨i0, hi0, hz0, hz1, hz2⟩ := info_parts Tryz.infoE
  have HI0 := Lib.hid hi0
  have HIZ0 := Lib.hid hz0
  have HIZ1 := Lib.hid hz1
  have HIZ2 := Lib.hid hz2
  clear hi0 hz0 hz1 hz2
  go_loopg [37, 4] cn (fun q u o wr => ∃ (p : Nat) (ov : Value), p + q = cn ∧ u = .int .i64 p ∧ ov = o ∧ ChR w wr g w4.heap.size t CA cn cc p ov)
  case atStart =>
    exact ⟨0, _, by omega, rfl, rfl, HR4.out, HB4.out, HVS4.out.mono (fun b hb => ⟨hb.1, Nat.lt_of_lt_of_le hb.2 HZ4.out⟩), World.ownsRow_nil _ _ _ _, Nat.le_refl _⟩
  case round =>
    obtain ⟨p, ov, hp, rfl, rfl, hR⟩ := hrel
    have HP := Lib.hid hp
    have HR := Lib.hid hR
    have hgz : g < w4.heap.size := by have := HZ4.out; omega
    clear hp
    by_cases hlt : p < cn
    · have hd0 : decide ((p : Int) < (cn : Int)) = true := by simp; omega
      rcases hR.val with h0 | ⟨b, off, rfl, hbS, hc⟩
      · omega
      obtain ⟨e0, e1, e2, e3, e4, ⟨c0, c1, c2, c3, c4⟩, hr⟩ := hc p hlt
      obtain ⟨vk, vi, vx, VA, vn, vc, VA', vn', vc', e⟩ := hr.shape
      injection e with e
      injection e with e
      injection e with q0 e; injection e with q1 e; injection e with q2 e; injection e with q3 e; injection e with q4 e
      subst q0 q1 q2 q3 q4
      have i1 : (0 : Int) ≤ p := by omega
      have i2 : (p : Int) < cn := by omega
      have i3 : (p : Int) ≤ 32 := by omega
      have hA := (Below.refl wr.heap.size wr).alloc (Nat.le_refl _) (.cells #[.int .i64 vk, .bool vi, .string vx, .slice VA vn vc, .slice VA' vn' vc'] 25)
      have HE := Lib.hid (hr.on (fun b hb => Nat.lt_of_lt_of_le hb.2 hR.size) hA)
      have HRA := Lib.hid (hR.rd.on hA)
      have HBA := Lib.hid (hR.below.trans (hA.mono hR.below.size))
      have HVA := Lib.hid (hR.val.on (fun b hb => Nat.lt_of_lt_of_le hb.2 hR.size) hA)
      have HOA := Lib.hid (own_on hR.own hA)
      have HSA := Lib.hid (Nat.le_trans hR.size hA.size)
      have HCB2 := Lib.hid (HCBK.out p hlt)
      have HL := Lib.hid hlt
      clear hR hr hc e hA HR hlt
      go_wp2_with fail
      refine (edit_any (cc p) _ _ _ g _ HE.out (fun b hb => ⟨Nat.lt_of_lt_of_le hb.2 HSA.out, by have := hb.1; omega⟩) HRA.out HCB2.out).mono ?_
      rintro e w5 ⟨rfl, hrd, hbu⟩
      have HRB := Lib.hid (HRA.out.but hbu (hrd.eq (b' := !VT.allTo (fun j => (cc j).editOk) (p + 1)) (by
        show _ = !(VT.allTo (fun j => (cc j).editOk) p && (cc p).editOk)
        cases VT.allTo (fun j => (cc j).editOk) p <;> cases (cc p).editOk <;> rfl)))
      have HBB := Lib.hid (hbu.below HBA.out (by have := HGE.out; omega) HBA.out.size)
      have HVB := Lib.hid (HVA.out.but hbu (fun b hb => ⟨Nat.lt_of_lt_of_le hb.2 HSA.out, by have := hb.1; omega⟩))
      have HOB := Lib.hid (own_but HOA.out hbu hgz)
      have HSB := Lib.hid (Nat.le_trans HSA.out hbu.size)
      have HES := Lib.hid (show edCs (t.chg.edits (p + 1)) = edCs (t.chg.edits p) ++ edC (cc p).editOf by rw [VT.edits_succ, edCs_snoc, HCC.out])
      clear hrd hbu HE HRA HBA HVA HOA HSA c0 c1 c2 c3 c4
      generalize (cc p).editOf = ed at *
      obtain ⟨wh, ea, eb, ec, edd, etx⟩ := ed
      unfold edV
      simp only
      have hA := (Below.refl w5.heap.size w5).alloc (Nat.le_refl _) (.cells #[.bool wh, .int .i64 ea, .int .i64 eb, .int .i64 ec, .int .i64 edd, .string etx] 106)
      have HRC := Lib.hid (HRB.out.on hA)
      have HBC := Lib.hid (HBB.out.trans (hA.mono HBB.out.size))
      have HVC := Lib.hid (HVB.out.on (fun b hb => Nat.lt_of_lt_of_le hb.2 HSB.out) hA)
      have HOC := Lib.hid (own_on HOB.out hA)
      have HSC := Lib.hid (Nat.le_trans HSB.out hA.size)
      have HN := Lib.hid (World.news_of_block (heap_alloc_new w5 (.cells #[.bool wh, .int .i64 ea, .int .i64 eb, .int .i64 ec, .int .i64 edd, .string etx] 106)))
      clear hA HRB HBB HVB HOB HSB
      go_wp2_with (at_builtin; refine wpList_append_own _ rfl _ _ _ rfl w4.heap.size 106 i0 _ 6 56 Tryz.underlying100 HI0.out HIZ0.out HIZ1.out HIZ2.out rfl (by decide) ov p _ rfl HOC.out ⟨w5.heap.size, 0, none⟩ 1 1 (edC ⟨wh, ea, eb, ec, edd, etx⟩) rfl rfl HN.out (edC_one _) (by unfold maxLen; omega) (by omega) HSC.out ?_)
      intro v' w6 hown hg6 _
      have HOW := Lib.hid hown
      have hne6 : some g ≠ ov.ownBlock := fun e => by have := (HOC.out.lt g e.symm).1; omega
      have HRD6 : Hid (Rd w6 g (!VT.allTo (fun j => (cc j).editOk) (p + 1))) := Lib.hid ⟨by
        obtain ⟨mm, hmm⟩ := HRC.out.ml
        have hml := ML.lt ⟨mm, hmm⟩
        exact ⟨mm, (World.cell?_of_block (w := (w5.alloc (.cells #[.bool wh, .int .i64 ea, .int .i64 eb, .int .i64 ec, .int .i64 edd, .string etx] 106))) (hg6.block 1 hml (fun e => by have h1 := (HOC.out.lt 1 e.symm).1; have h2 : 1 < w.heap.size := HM.out.lt; have h3 := HB4.out.size; omega))).trans hmm⟩, HRC.out.ne, (hg6.block _ HRC.out.rd.lt hne6).trans HRC.out.rd⟩
      have HB6 := Lib.hid (HBC.out.grown hg6 HBC.out.size (fun k hk => by have h1 := (HOC.out.lt k hk).1; have h3 := HB4.out.size; omega))
      have HV6 := Lib.hid (HVC.out.same (grown_same hg6 (fun b hb => ⟨Nat.lt_of_lt_of_le hb.2 HSC.out, fun e => by have := (HOC.out.lt b e.symm).1; have := hb.2; omega⟩)))
      have HS6 := Lib.hid (Nat.le_trans HSC.out hg6.size)
      clear hown hg6 HRC HBC HVC HOC HSC HN
      go_wp2
      go_roundg (gk - 1)
      case measure => have := HP.out; omega
      case rel => exact ⟨p + 1, _, by have := HP.out; omega, by go_num, rfl, HRD6.out, HB6.out, HV6.out, by rw [HES.out]; exact HOW.out, HS6.out⟩
    · have hd1 : decide ((p : Int) < (cn : Int)) = false := by simp; omega
      have hpn : p = cn := by have := HP.out; omega
      subst hpn
      have c0 := hR.rd.rd.c
      have HO2 := Lib.hid hR.own
      have HB2 := Lib.hid hR.below
      have HL2 := Lib.hid (VT.edits_length t.chg p)
      have HOKF := Lib.hid (show t.changeOk = VT.allTo (fun j => (cc j).editOk) p by rw [HOK.out, HQ1.out]; rfl)
      clear hR HR hlt
      cases hq : VT.allTo (fun j => (cc j).editOk) p
      · rw [hq] at c0
        have HF := Lib.hid (HOKF.out.trans hq)
        clear hq
        go_wp2
        exact bodyPost_ret (v := .tuple #[.string ⟨#[]⟩, .int .i64 0, .slice none 0 0, .int .i64 130]) (by simp [results, Tryz.results63, go_sem]) rfl (ChangeP.bad HF.out HB2.out)
      · rw [hq] at c0
        have HF := Lib.hid (HOKF.out.trans hq)
        clear hq
        go_wp2
        have hown := HO2.out
        have hl := HL2.out
        rw [show p = (t.chg.edits p).length from hl.symm] at hown
        obtain ⟨EA, ecap, e, hes⟩ := ES_of_own (S' := New w wr) (by rw [hl] at hown; rw [hl]; exact hown) (fun b hb => by have h1 := HO2.out.lt b hb; have h2 := HB4.out.size; exact ⟨by omega, h1.2⟩)
        subst e
        refine bodyPost_ret (v := .tuple #[.string t.uri, .int .i64 (t.doc.wholeN VT.versionN), .slice EA (t.chg.edits p).length ecap, .int .i64 0]) (by simp [results, Tryz.results63, go_sem]) rfl ⟨HB2.out, .inl ⟨HF.out, EA, ecap, by rw [HCN.out], by rw [HCN.out]; exact hes⟩⟩
end Go.Proofs.YtfploakafbnigaaGreatDoor
namespace Go.Proofs.YtfploakafbnigaaGreatDoor
open Go.RowKit Val
set_option linter.unusedVariables false
set_option linter.unusedSimpArgs false

/-- the loop's memory -/
structure RchR (w W : World) (gc z0 : Nat) (t : VT) (bx : Array Value) (A : Option Addr) (n : Nat) (c : Nat → VT) (p : Nat) (ov : Value) : Prop where
  box : BK W gc 25 bx
  below : Below w.heap.size w W
  val : VS W (fun b => b < z0) A n c
  own : W.ownsRow z0 106 6 ov p (edCs (t.chg.edits p))
  size : z0 ≤ W.heap.size
  ok : VT.allTo (fun j => (c j).editOk) p = true

set_option maxRecDepth 100000 in
set_option maxHeartbeats 8000000 in
theorem refChange_any (t : VT) (w : World) (S : Nat → Prop) (v : Value) (h : VAL w S t v) (hS : ∀ b, S b → b < w.heap.size) (hbk : t.bulk ≤ 999999970) :
    Calls Tryz.prog 64 #[v] w (ChangeP t w) := by
  have HV := Lib.hid h
  have HS := Lib.hid hS
  have HK := Lib.hid hbk
  have hdb : t.doc.bulk ≤ 999999971 := by have := VT.getD_bulk t VT.tdN; unfold VT.doc; omega
  have hcb : t.chg.bulk ≤ 999999971 := by have := VT.getD_bulk t VT.changesN; unfold VT.chg; omega
  have HDB := Lib.hid hdb
  have HCB := Lib.hid hcb
  obtain ⟨A, n, cap, A', n', cap', rfl⟩ := h.parts
  clear h hS hbk hdb hcb
  go_enter Tryz.func64, Tryz.ntmps64
  go_wp2_with fail
  have HB0 := Lib.hid ((Below.refl w.heap.size w).alloc (Nat.le_refl _) (.cells #[.int .i64 t.kind, .bool t.is, .string t.text, .slice A n cap, .slice A' n' cap'] 25))
  have HX0 := Lib.hid (BX.new w (.int .i64 t.kind) (.bool t.is) (.string t.text) (.slice A n cap) (.slice A' n' cap'))
  have HV0 := Lib.hid (HV.out.on HS.out HB0.out)
  refine (refUri_any t _ S _ HV0.out (fun b hb => Nat.lt_of_lt_of_le (HS.out b hb) HB0.out.size) (by have := HK.out; omega)).mono ?_
  rintro e w1 ⟨v', rfl, hv, hb⟩
  obtain ⟨B, m, cp, B', m', cp', rfl⟩ := hv.parts
  have HB1 := Lib.hid (HB0.out.trans (hb.mono HB0.out.size))
  have HX1 := Lib.hid (HX0.out.on hb)
  have HV1 := Lib.hid (HV0.out.on (fun b hb => Nat.lt_of_lt_of_le (HS.out b hb) HB0.out.size) hb)
  have HD1 := Lib.hid (hv.mono (S' := fun b => b < w1.heap.size) New_old)
  clear hv hb HB0 HX0 HV0
  have hA := (Below.refl w1.heap.size w1).alloc (Nat.le_refl _) (.cells #[.int .i64 t.doc.kind, .bool t.doc.is, .string t.doc.text, .slice B m cp, .slice B' m' cp'] 25)
  replace HD1 := Lib.hid (HD1.out.on (fun b hb => hb) hA)
  replace HX1 := Lib.hid (HX1.out.on hA)
  replace HV1 := Lib.hid (HV1.out.on (fun b hb => Nat.lt_of_lt_of_le (HS.out b hb) HB1.out.size) hA)
  have HBA := Lib.hid (HB1.out.trans (hA.mono HB1.out.size))
  have HZA := Lib.hid hA.size
  clear hA HB1
  go_wp2_with fail
  refine (refWhole_any t.doc VT.versionN 9007199254740991 _ _ _ HD1.out (fun b hb => Nat.lt_of_lt_of_le hb HZA.out) (by have := HDB.out; omega)).mono ?_
  rintro e w2 ⟨rfl, hb⟩
  have HB2 := Lib.hid (HBA.out.trans (hb.mono HBA.out.size))
  have HX2 := Lib.hid (HX1.out.on hb)
  have HV2 := Lib.hid (HV1.out.on (fun b hb => Nat.lt_of_lt_of_le (HS.out b hb) HBA.out.size) hb)
  have x0 := HX2.out.c0
  have x1 := HX2.out.c1
  have x2 := HX2.out.c2
  have x3 := HX2.out.c3
  have x4 := HX2.out.c4
  clear hb HX1 HD1 HBA HZA HV1
  go_wp2_with fail
  refine (refGet_any t VT.changesN _ _ _ HV2.out (fun b hb => Nat.lt_of_lt_of_le (HS.out b hb) HB2.out.size) (by have := HK.out; omega)).mono ?_
  rintro e w3 ⟨v3, rfl, hv, hb⟩
  have hv : VAL w3 _ t.chg v3 := hv
  have HB3 := Lib.hid (HB2.out.trans (hb.mono HB2.out.size))
  have hroot := hv.root
  obtain ⟨ck, ci, cx, cn, cc, cm, hroot⟩ := hroot
  have HCN := Lib.hid (show t.chg.n = cn by rw [hroot]; rfl)
  have HCC := Lib.hid (show t.chg.kids = cc by rw [hroot]; rfl)
  have HCK := Lib.hid (show (t.getD VT.changesN).kind = ck by show t.chg.kind = ck; rw [hroot]; rfl)
  have HCBK := Lib.hid (fun j (hj : j < cn) => show (cc j).bulk ≤ 999999980 from by have := VT.bulk_kid ck ci cx cn cc cm j hj; have h2 := HCB.out; rw [hroot] at h2; omega)
  rw [hroot] at hv
  obtain ⟨CA, ccap, CA', ccap', rfl, -, -, hvs⟩ := hv.open
  have HVS := Lib.hid (hvs.mono (S' := fun b => b < w3.heap.size) New_old)
  have HOK1 := Lib.hid (show t.changeOk1 = (t.uriOk && t.doc.wholeOk VT.versionN 9007199254740991 && ((t.get VT.changesN).isSome && decide (ck = 4)) && decide (cn ≤ 32)) by
    unfold VT.changeOk1 VT.hasK VT.has; rw [HCN.out, HCK.out])
  have HOK := Lib.hid (show t.changeOk = (t.changeOk1 && VT.allTo (fun j => (cc j).editOk) cn) by unfold VT.changeOk; rw [HCN.out, HCC.out])
  clear hv hvs hb hroot x0 x1 x2 x3 x4 HX2 HV2
  -- c, boxed
  have hA := (Below.refl w3.heap.size w3).alloc (Nat.le_refl _) (.cells #[.int .i64 ck, .bool ci, .string cx, .slice CA cn ccap, .slice CA' cm.length ccap'] 25)
  have HCX := Lib.hid (BK.new w3 25 #[.int .i64 ck, .bool ci, .string cx, .slice CA cn ccap, .slice CA' cm.length ccap'])
  replace HVS := Lib.hid (HVS.out.on (fun b hb => hb) hA)
  replace HB3 := Lib.hid (HB3.out.trans (hA.mono HB3.out.size))
  have HZ3 := Lib.hid hA.size
  clear hA
  go_upto_region 4 with (fail)
  generalize (w3.alloc (.cells #[.int .i64 ck, .bool ci, .string cx, .slice CA cn ccap, .slice CA' cm.length ccap'] 25)) = w4 at *
  have x0 := HCX.out.c 0 rfl
  have x3 := HCX.out.c 3 rfl
  have HQ : Hid (t.changeOk1 = false → t.changeOk = false) := Lib.hid (fun h => by rw [HOK.out, h]; rfl)
  generalize hu : t.uriOk = u1 at *
  generalize hd : t.doc.wholeOk VT.versionN 9007199254740991 = u2 at *
  generalize hg : (t.get VT.changesN).isSome = u3 at *
  clear hu hd hg
  have bad : ∀ (W : World), Below w.heap.size w W → t.changeOk1 = false → ChangeP t w (.returned (.tuple #[.string ⟨#[]⟩, .int .i64 0, .slice none 0 0, .int .i64 130])) W := fun W hb h => ChangeP.bad (HQ.out h) hb
  have BAD := Lib.hid bad
  clear bad
  cases u1
  · go_wp2
    exact bodyPost_ret (v := .tuple #[.string ⟨#[]⟩, .int .i64 0, .slice none 0 0, .int .i64 130]) (by simp [results, Tryz.results64, go_sem]) rfl (BAD.out _ HB3.out (by rw [HOK1.out]; rfl))
  cases u2
  · go_wp2
    exact bodyPost_ret (v := .tuple #[.string ⟨#[]⟩, .int .i64 0, .slice none 0 0, .int .i64 130]) (by simp [results, Tryz.results64, go_sem]) rfl (BAD.out _ HB3.out (by rw [HOK1.out]; rfl))
  cases u3
  · go_wp2
    exact bodyPost_ret (v := .tuple #[.string ⟨#[]⟩, .int .i64 0, .slice none 0 0, .int .i64 130]) (by simp [results, Tryz.results64, go_sem]) rfl (BAD.out _ HB3.out (by rw [HOK1.out]; rfl))
  by_cases h4 : ¬ ck = 4
  · obtain ⟨k1, k2⟩ := int_ne h4
    have HN4 := Lib.hid (decide_eq_false h4)
    clear h4
    go_wp2
    exact bodyPost_ret (v := .tuple #[.string ⟨#[]⟩, .int .i64 0, .slice none 0 0, .int .i64 130]) (by simp [results, Tryz.results64, go_sem]) rfl (BAD.out _ HB3.out (by rw [HOK1.out, HN4.out]; rfl))
  replace h4 := Classical.not_not.1 h4
  obtain ⟨k1, k2⟩ := int_eq h4
  have HN4 := Lib.hid (decide_eq_true h4)
  subst h4
  by_cases h32 : ¬ cn ≤ 32
  · have d1 : decide (cn ≤ 32) = false := decide_eq_false h32
    have d2 : decide (32 < (cn : Int)) = true := by simp; omega
    have HN5 := Lib.hid d1
    clear h32
    go_wp2
    exact bodyPost_ret (v := .tuple #[.string ⟨#[]⟩, .int .i64 0, .slice none 0 0, .int .i64 130]) (by simp [results, Tryz.results64, go_sem]) rfl (BAD.out _ HB3.out (by rw [HOK1.out, HN5.out]; simp))
  replace h32 := Classical.not_not.1 h32
  have d1 : decide (cn ≤ 32) = true := decide_eq_true h32
  have d2 : decide (32 < (cn : Int)) = false := by simp; omega
  have HQ1 : Hid (t.changeOk1 = true) := Lib.hid (by rw [HOK1.out, d1]; rfl)
  generalize hz3 : w3.heap.size = gc at *
  clear hz3 d1
  obtain ⟨i0, hi0, hz0, hz1, hz2⟩ := info_parts Tryz.infoE
  have HI0 := Lib.hid hi0
  have HIZ0 := Lib.hid hz0
  have HIZ1 := Lib.hid hz1
  have HIZ2 := Lib.hid hz2
  clear hi0 hz0 hz1 hz2 BAD HQ
  go_wp2_with fail
  clear x0 x3
  go_loopg [14, 13] cn (fun q u o wr => ∃ (p : Nat) (ov : Value), p + q = cn ∧ u = .int .i64 p ∧ ov = o ∧ RchR w wr gc w4.heap.size t #[.int .i64 4, .bool ci, .string cx, .slice CA cn ccap, .slice CA' cm.length ccap'] CA cn cc p ov)
  case atStart =>
    exact ⟨0, _, by omega, rfl, rfl, HCX.out, HB3.out, HVS.out.mono (fun b hb => Nat.lt_of_lt_of_le hb HZ3.out), World.ownsRow_nil _ _ _ _, Nat.le_refl _, rfl⟩
  case round =>
    obtain ⟨p, ov, hp, rfl, rfl, hR⟩ := hrel
    have HP := Lib.hid hp
    have HR := Lib.hid hR
    have hgc : gc < w4.heap.size := HCX.out.lt
    have x3 := hR.box.c 3 rfl
    clear hp
    by_cases hlt : p < cn
    · have hd0 : decide ((p : Int) < (cn : Int)) = true := by simp; omega
      rcases hR.val with h0 | ⟨b, off, rfl, hbS, hc⟩
      · omega
      obtain ⟨e0, e1, e2, e3, e4, ⟨c0, c1, c2, c3, c4⟩, hr⟩ := hc p hlt
      have i1 : (0 : Int) ≤ p := by omega
      have i2 : (p : Int) < cn := by omega
      have i3 : (p : Int) ≤ 32 := by omega
      have HE := Lib.hid hr
      have HCB2 := Lib.hid (HCBK.out p hlt)
      have HL := Lib.hid hlt
      have HSZ := Lib.hid hR.size
      clear hR hr hc hlt
      go_wp2_with fail
      refine (refEdit_any (cc p) _ _ _ HE.out (fun b hb => Nat.lt_of_lt_of_le hb HSZ.out) HCB2.out).mono ?_
      rintro e w5 ⟨rfl, hb⟩
      have HX5 := Lib.hid (HR.out.box.on hb)
      have HB5 := Lib.hid (HR.out.below.trans (hb.mono HR.out.below.size))
      have HV5 := Lib.hid (HR.out.val.on (fun b hb => Nat.lt_of_lt_of_le hb HSZ.out) hb)
      have HO5 := Lib.hid (own_on HR.out.own hb)
      have HS5 := Lib.hid (Nat.le_trans HSZ.out hb.size)
      have HA5 := Lib.hid HR.out.ok
      have HES := Lib.hid (show edCs (t.chg.edits (p + 1)) = edCs (t.chg.edits p) ++ edC (cc p).editOf by rw [VT.edits_succ, edCs_snoc, HCC.out])
      clear hb c0 c1 c2 c3 c4 x3 HR HE
      cases hok : (cc p).editOk
      · have HF : Hid (t.changeOk = false) := Lib.hid (by rw [HOK.out, VT.allTo_false _ cn p HL.out hok]; simp)
        clear hok
        generalize (cc p).editOf = ed at *
        obtain ⟨wh, ea, eb, ec, edd, etx⟩ := ed
        unfold edV
        simp only
        go_wp2
        exact bodyPost_ret (v := .tuple #[.string ⟨#[]⟩, .int .i64 0, .slice none 0 0, .int .i64 130]) (by simp [results, Tryz.results64, go_sem]) rfl (ChangeP.bad HF.out (HB5.out.alloc HB5.out.size _))
      · have HAN : Hid (VT.allTo (fun j => (cc j).editOk) (p + 1) = true) := Lib.hid (by unfold VT.allTo; rw [HA5.out, hok]; rfl)
        clear hok
        generalize (cc p).editOf = ed at *
        obtain ⟨wh, ea, eb, ec, edd, etx⟩ := ed
        unfold edV
        simp only
        have hA := (Below.refl w5.heap.size w5).alloc (Nat.le_refl _) (.cells #[.bool wh, .int .i64 ea, .int .i64 eb, .int .i64 ec, .int .i64 edd, .string etx] 106)
        have HEX := Lib.hid (BK.new w5 106 #[.bool wh, .int .i64 ea, .int .i64 eb, .int .i64 ec, .int .i64 edd, .string etx])
        replace HX5 := Lib.hid (HX5.out.on hA)
        replace HB5 := Lib.hid (HB5.out.trans (hA.mono HB5.out.size))
        replace HV5 := Lib.hid (HV5.out.on (fun b hb => Nat.lt_of_lt_of_le hb HS5.out) hA)
        replace HO5 := Lib.hid (own_on HO5.out hA)
        replace HS5 := Lib.hid (Nat.le_trans HS5.out hA.size)
        clear hA
        go_upto_region 13 with (fail)
        generalize (w5.alloc (.cells #[.bool wh, .int .i64 ea, .int .i64 eb, .int .i64 ec, .int .i64 edd, .string etx] 106)) = w6 at *
        generalize hz5 : w5.heap.size = z5 at *
        have b0 := HEX.out.c 0 rfl
        have b1 := HEX.out.c 1 rfl
        have b2 := HEX.out.c 2 rfl
        have b3 := HEX.out.c 3 rfl
        have b4 := HEX.out.c 4 rfl
        have b5 := HEX.out.c 5 rfl
        have hA := (Below.refl w6.heap.size w6).alloc (Nat.le_refl _) (.cells #[.bool wh, .int .i64 ea, .int .i64 eb, .int .i64 ec, .int .i64 edd, .string etx] 106)
        replace HX5 := Lib.hid (HX5.out.on hA)
        replace HB5 := Lib.hid (HB5.out.trans (hA.mono HB5.out.size))
        replace HV5 := Lib.hid (HV5.out.on (fun b hb => Nat.lt_of_lt_of_le hb HS5.out) hA)
        replace HO5 := Lib.hid (own_on HO5.out hA)
        replace HS5 := Lib.hid (Nat.le_trans HS5.out hA.size)
        have HN := Lib.hid (World.news_of_block (heap_alloc_new w6 (.cells #[.bool wh, .int .i64 ea, .int .i64 eb, .int .i64 ec, .int .i64 edd, .string etx] 106)))
        clear hA HEX hz5
        go_wp2_with (at_builtin; refine wpList_append_own _ rfl _ _ _ rfl w4.heap.size 106 i0 _ 6 56 Tryz.underlying100 HI0.out HIZ0.out HIZ1.out HIZ2.out rfl (by decide) ov p _ rfl HO5.out ⟨w6.heap.size, 0, none⟩ 1 1 (edC ⟨wh, ea, eb, ec, edd, etx⟩) rfl rfl HN.out (edC_one _) (by unfold maxLen; omega) (by omega) HS5.out ?_)
        intro v' w7 hown hg6 _
        have HOW := Lib.hid hown
        have HX7 := Lib.hid ((show BK w7 gc _ _ from (hg6.block gc HX5.out.lt (fun e => by have := (HO5.out.lt gc e.symm).1; omega)).trans HX5.out))
        have HB7 := Lib.hid (HB5.out.grown hg6 HB5.out.size (fun k hk => by have h1 := (HO5.out.lt k hk).1; have h3 := HB3.out.size; omega))
        have HV7 := Lib.hid (HV5.out.same (grown_same hg6 (fun b hb => ⟨Nat.lt_of_lt_of_le hb HS5.out, fun e => by have := (HO5.out.lt b e.symm).1; omega⟩)))
        have HS7 := Lib.hid (Nat.le_trans HS5.out hg6.size)
        clear hown hg6 HX5 HB5 HV5 HO5 HS5 HN b0 b1 b2 b3 b4 b5
        go_wp2
        go_roundg (gk - 1)
        case measure => have := HP.out; omega
        case rel => exact ⟨p + 1, _, by have := HP.out; omega, by go_num, rfl, HX7.out, HB7.out, HV7.out, by rw [HES.out]; exact HOW.out, HS7.out, HAN.out⟩
    · have hd1 : decide ((p : Int) < (cn : Int)) = false := by simp; omega
      have hpn : p = cn := by have := HP.out; omega
      subst hpn
      have HO2 := Lib.hid hR.own
      have HB2 := Lib.hid hR.below
      have HL2 := Lib.hid (VT.edits_length t.chg p)
      have HF := Lib.hid (show t.changeOk = true by rw [HOK.out, HQ1.out, hR.ok]; rfl)
      clear hR HR hlt
      go_wp2
      have hown := HO2.out
      have hl := HL2.out
      obtain ⟨EA, ecap, e, hes⟩ := ES_of_own (S' := New w wr) (l := t.chg.edits p) (by rw [hl]; exact hown) (fun b hb => by have h1 := HO2.out.lt b hb; have h2 := HB3.out.size; exact ⟨by omega, h1.2⟩)
      subst e
      refine bodyPost_ret (v := .tuple #[.string t.uri, .int .i64 (t.doc.wholeN VT.versionN), .slice EA (t.chg.edits p).length ecap, .int .i64 0]) (by simp [results, Tryz.results64, go_sem]) rfl ⟨HB2.out, .inl ⟨HF.out, EA, ecap, by rw [HCN.out], by rw [HCN.out]; exact hes⟩⟩
end Go.Proofs.YtfploakafbnigaaGreatDoor
