/-
  Joined texts: ParRef1 ParRef2 ParRd ParRd2 ParOpen ParCancel ParMem.
-/
import Derived.Test.YtfploakafbnigaaGreatDoorPkValA
import Derived.Test.YtfploakafbnigaaGreatDoorPkValB
import Derived.Test.YtfploakafbnigaaGreatDoorPkNumD
import Derived.BigQuiet
import Derived.Deep.QuietTactic
import Derived.Test.YtfploakafbnigaaGreatDoorPkNumC
namespace Go.Proofs.YtfploakafbnigaaGreatDoor
open Go.RowKit Val
set_option linter.unusedVariables false
set_option linter.unusedSimpArgs false

theorem int_eq {a b : Int} (h : a = b) : (a == b) = true ∧ (a != b) = false := by subst h; simp
theorem int_ne {a b : Int} (h : ¬ a = b) : (a == b) = false ∧ (a != b) = true := by simp [h]
theorem getD_text (t : VT) (nm : ByteArray) (h : t.bulk ≤ 1000000000) : (t.getD nm).text.data.toList.length ≤ 1000000001 := by
  rw [list_len]
  have := VT.text_bulk (t.getD nm)
  have := VT.getD_bulk t nm
  omega
/-- the parts of what a Get has found -/
theorem VAL.parts {w : World} {S : Nat → Prop} {t : VT} {v : Value} (h : VAL w S t v) : ∃ A n cap A' n' cap', v = .agg #[.int .i64 t.kind, .bool t.is, .string t.text, .slice A n cap, .slice A' n' cap'] := by
  obtain ⟨k, i, x, n, c, m, rfl⟩ := h.root
  obtain ⟨A, cap, A', cap', e, -⟩ := h
  exact ⟨_, _, _, _, _, _, e⟩

set_option maxRecDepth 100000 in
set_option maxHeartbeats 2000000 in
theorem refWhole_any (t : VT) (nm : ByteArray) (most : Int) (w : World) (S : Nat → Prop) (v : Value) (h : VAL w S t v) (hS : ∀ b, S b → b < w.heap.size) (hbk : t.bulk ≤ 1000000000) :
    Calls Tryz.prog 131 #[v, .string nm, .int .i64 most] w fun e w' => e = .returned (.tuple #[.int .i64 (t.wholeN nm), .bool (t.wholeOk nm most)]) ∧ Below w.heap.size w w' := by
  have HT := Lib.hid (getD_text t nm hbk)
  have HG := Lib.hid (fun W (hb : Below w.heap.size w W) => refGet_any t nm W S v (h.on hS hb) (fun b hb' => Nat.lt_of_lt_of_le (hS b hb') hb.size) (by omega))
  obtain ⟨A, n, cap, A', n', cap', rfl⟩ := h.parts
  clear h hS hbk
  go_enter Tryz.func131, Tryz.ntmps131
  go_wp2_with fail
  refine (HG.out _ ((Below.refl _ _).alloc (Nat.le_refl _) _)).mono ?_
  rintro e w1 ⟨v', rfl, hv, hb⟩
  obtain ⟨B, m, cp, B', m', cp', rfl⟩ := hv.parts
  have HB1 := Lib.hid (((Below.refl w.heap.size w).alloc (Nat.le_refl _) _).trans (hb.mono (by simp)))
  have HI := Lib.hid (fun W => refInt_any (t.getD nm).text _ rfl W (by have := HT.out; omega))
  obtain ⟨r, ro, hR⟩ : ∃ r ro, (t.getD nm).numOf = (r, ro) := ⟨_, _, rfl⟩
  have HR := Lib.hid hR
  change Hid (∀ W, Calls Tryz.prog 137 #[.string (t.getD nm).text] W fun e w' => e = .returned (.tuple #[.int .i64 (t.getD nm).numOf.1, .bool (t.getD nm).numOf.2]) ∧ Below W.heap.size W w') at HI
  rw [hR] at HI
  have HN := Lib.hid (show t.wholeN nm = r by unfold VT.wholeN; rw [hR])
  clear hv hb hR
  generalize hq : (t.get nm).isSome = q at *
  generalize hk : (t.getD nm).kind = kk at *
  have HO := Lib.hid (show t.wholeOk nm most = (q && decide (kk = 2) && (ro && decide (0 ≤ r) && decide (r ≤ most))) by unfold VT.wholeOk VT.hasK VT.has VT.inR; rw [hq, hk, HR.out])
  clear hq hk HR
  go_wp2_with fail
  refine (HI.out _).mono ?_
  rintro e w2 ⟨rfl, hb⟩
  have HB2 := Lib.hid (HB1.out.trans ((((Below.refl w1.heap.size w1).alloc (Nat.le_refl _) _).trans (hb.mono (by simp))).mono HB1.out.size))
  have HX := Lib.hid ((BX.new w1 (.int .i64 kk) (.bool (t.getD nm).is) (.string (t.getD nm).text) (.slice B m cp) (.slice B' m' cp')).on hb)
  have x0 := HX.out.c0
  clear hb HX
  cases q
  · have HF : Hid (t.wholeOk nm most = false) := Lib.hid (by rw [HO.out]; rfl)
    go_wp2
    go_ret2
    exact ⟨by rw [HF.out, HN.out]; rfl, HB2.out⟩
  cases ro
  · have HF : Hid (t.wholeOk nm most = false) := Lib.hid (by rw [HO.out]; simp)
    go_wp2
    go_ret2
    exact ⟨by rw [HF.out, HN.out]; rfl, HB2.out⟩
  by_cases h1 : ¬ kk = 2
  · obtain ⟨k1, k2⟩ := int_ne h1
    have HF : Hid (t.wholeOk nm most = false) := Lib.hid (by rw [HO.out]; rw [decide_eq_false h1]; rfl)
    go_wp2
    go_ret2
    exact ⟨by rw [HF.out, HN.out]; rfl, HB2.out⟩
  replace h1 := Classical.not_not.1 h1
  obtain ⟨k1, k2⟩ := int_eq h1
  have HK := Lib.hid h1
  clear h1
  by_cases h2 : ¬ 0 ≤ r
  · have d2 : decide (0 ≤ r) = false := decide_eq_false h2
    have HF : Hid (t.wholeOk nm most = false) := Lib.hid (by rw [HO.out]; rw [d2]; simp)
    go_wp2
    go_ret2
    exact ⟨by rw [HF.out, HN.out]; rfl, HB2.out⟩
  replace h2 := Classical.not_not.1 h2
  have d2 : decide (0 ≤ r) = true := decide_eq_true h2
  by_cases h3 : ¬ r ≤ most
  · have d3 : decide (r ≤ most) = false := decide_eq_false h3
    have HF : Hid (t.wholeOk nm most = false) := Lib.hid (by rw [HO.out]; rw [d3]; simp)
    go_wp2
    go_ret2
    exact ⟨by rw [HF.out, HN.out]; rfl, HB2.out⟩
  replace h3 := Classical.not_not.1 h3
  have d3 : decide (r ≤ most) = true := decide_eq_true h3
  have HF : Hid (t.wholeOk nm most = true) := Lib.hid (by rw [HO.out]; rw [d2, d3, HK.out]; rfl)
  go_wp2
  go_ret2
  exact ⟨by rw [HF.out, HN.out]; rfl, HB2.out⟩

set_option maxRecDepth 100000 in
set_option maxHeartbeats 2000000 in
theorem refText_any (t : VT) (nm : ByteArray) (w : World) (S : Nat → Prop) (v : Value) (h : VAL w S t v) (hS : ∀ b, S b → b < w.heap.size) (hbk : t.bulk ≤ 1000000010) :
    Calls Tryz.prog 132 #[v, .string nm] w fun e w' => e = .returned (.tuple #[.string (t.textOf nm), .bool (t.hasK nm 3)]) ∧ Below w.heap.size w w' := by
  have HG := Lib.hid (fun W (hb : Below w.heap.size w W) => refGet_any t nm W S v (h.on hS hb) (fun b hb' => Nat.lt_of_lt_of_le (hS b hb') hb.size) (by omega))
  obtain ⟨A, n, cap, A', n', cap', rfl⟩ := h.parts
  clear h hS hbk
  go_enter Tryz.func132, Tryz.ntmps132
  go_wp2_with fail
  refine (HG.out _ ((Below.refl _ _).alloc (Nat.le_refl _) _)).mono ?_
  rintro e w1 ⟨v', rfl, hv, hb⟩
  obtain ⟨B, m, cp, B', m', cp', rfl⟩ := hv.parts
  have HB1 := Lib.hid (((Below.refl w.heap.size w).alloc (Nat.le_refl _) _).trans (hb.mono (by simp)))
  have HN := Lib.hid (show t.textOf nm = (t.getD nm).text from rfl)
  clear hv hb
  generalize hq : (t.get nm).isSome = q at *
  generalize hk : (t.getD nm).kind = kk at *
  have HO := Lib.hid (show t.hasK nm 3 = (q && decide (kk = 3)) by unfold VT.hasK VT.has; rw [hq, hk])
  clear hq hk
  generalize (t.getD nm).text = tx at *
  cases q
  · have HF : Hid (t.hasK nm 3 = false) := Lib.hid (by rw [HO.out]; rfl)
    go_wp2_with fail
    go_quiet (fail)
    go_wp2
    go_ret2
    exact ⟨by rw [HF.out, HN.out]; rfl, below_drewN (HB1.out.alloc HB1.out.size _) _⟩
  by_cases h1 : ¬ kk = 3
  · obtain ⟨k1, k2⟩ := int_ne h1
    have HF : Hid (t.hasK nm 3 = false) := Lib.hid (by rw [HO.out, decide_eq_false h1]; rfl)
    clear h1
    go_wp2_with fail
    go_quiet (fail)
    go_wp2
    go_ret2
    exact ⟨by rw [HF.out, HN.out]; rfl, below_drewN (HB1.out.alloc HB1.out.size _) _⟩
  replace h1 := Classical.not_not.1 h1
  obtain ⟨k1, k2⟩ := int_eq h1
  have HF : Hid (t.hasK nm 3 = true) := Lib.hid (by rw [HO.out, h1]; rfl)
  subst h1
  go_wp2_with fail
  go_quiet (fail)
  go_wp2
  go_ret2
  exact ⟨by rw [HF.out, HN.out]; rfl, below_drewN (HB1.out.alloc HB1.out.size _) _⟩
end Go.Proofs.YtfploakafbnigaaGreatDoor
namespace Go.Proofs.YtfploakafbnigaaGreatDoor
open Go.RowKit Val
set_option linter.unusedVariables false
set_option linter.unusedSimpArgs false

/-- what a value says of a document, its name, whether it says one -/
def RefUri (t : VT) (w : World) (e : Ending) (w' : World) : Prop := ∃ v', e = .returned (.tuple #[v', .string t.uri, .bool t.uriOk]) ∧ VAL w' (New w w') t.doc v' ∧ Below w.heap.size w w'
theorem New_old {w w' : World} : ∀ b, New w w' b → b < w'.heap.size := fun _ h => h.2

set_option maxRecDepth 100000 in
set_option maxHeartbeats 4000000 in
theorem refUri_any (t : VT) (w : World) (S : Nat → Prop) (v : Value) (h : VAL w S t v) (hS : ∀ b, S b → b < w.heap.size) (hbk : t.bulk ≤ 1000000000) :
    Calls Tryz.prog 130 #[v] w (RefUri t w) := by
  have HG := Lib.hid (fun W (hb : Below w.heap.size w W) => refGet_any t VT.tdN W S v (h.on hS hb) (fun b hb' => Nat.lt_of_lt_of_le (hS b hb') hb.size) (by omega))
  have hdb : t.doc.bulk ≤ 1000000001 := by have := VT.getD_bulk t VT.tdN; unfold VT.doc; omega
  have HDB := Lib.hid hdb
  obtain ⟨A, n, cap, A', n', cap', rfl⟩ := h.parts
  clear h hS hbk hdb
  go_enter Tryz.func130, Tryz.ntmps130
  go_wp2_with fail
  refine (HG.out _ (al2_below _ _ _)).mono ?_
  rintro e w1 ⟨v', rfl, hv, hb⟩
  have hv : VAL w1 _ t.doc v' := hv
  obtain ⟨B, m, cp, B', m', cp', rfl⟩ := hv.parts
  have HB1 := Lib.hid ((al2_below w (.cells #[.int .i64 t.kind, .bool t.is, .string t.text, .slice A n cap, .slice A' n' cap'] 25) (.cells #[.int .i64 0, .bool false, .string ⟨#[]⟩, .slice none 0 0, .slice none 0 0] 25)).trans (hb.mono (by simp; omega)))
  have HY1 : Hid (BX w1 (w.heap.size + 1) (.int .i64 0) (.bool false) (.string ⟨#[]⟩) (.slice none 0 0) (.slice none 0 0)) := Lib.hid (BX.on (al2_1 _ _ _) hb)
  have HZ1 : Hid (w.heap.size + 2 ≤ w1.heap.size) := Lib.hid (by have := hb.size; simp at this; omega)
  have HV1 : Hid (VAL w1 (fun b => w.heap.size + 2 ≤ b ∧ b < w1.heap.size) t.doc _) := Lib.hid (hv.mono (fun b hb => ⟨by have := hb.1; simp at this; omega, hb.2⟩))
  clear hv hb HG
  have HC := Lib.hid (fun W (hb : Below w1.heap.size w1 W) => refText_any t.doc VT.uriN W _ _ (HV1.out.on (fun b hb => hb.2) hb) (fun b hb' => Nat.lt_of_lt_of_le hb'.2 hb.size) (by have := HDB.out; omega))
  generalize hq : (t.get VT.tdN).isSome = q at *
  generalize hk : t.doc.kind = kk at *
  have HO := Lib.hid (show t.uriOk = (q && decide (kk = 5) && t.doc.hasK VT.uriN 3 && VT.lenOk t.uri) by rw [← hq, ← hk]; rfl)
  clear hq hk
  go_wp2_with fail
  refine (HC.out _ ((Below.refl _ _).alloc (Nat.le_refl _) _)).mono ?_
  rintro e w2 ⟨rfl, hb⟩
  have HX := Lib.hid ((BX.new w1 (.int .i64 kk) (.bool t.doc.is) (.string t.doc.text) (.slice B m cp) (.slice B' m' cp')).on hb)
  have hb2 := ((Below.refl w1.heap.size w1).alloc (Nat.le_refl _) (.cells #[.int .i64 kk, .bool t.doc.is, .string t.doc.text, .slice B m cp, .slice B' m' cp'] 25)).trans (hb.mono (by simp))
  have HB2 := Lib.hid (HB1.out.trans (hb2.mono HB1.out.size))
  have HY2 := Lib.hid (HY1.out.on hb2)
  have HV2 := Lib.hid (HV1.out.on (fun b hb => hb.2) hb2)
  have HZ2 := Lib.hid (Nat.le_trans HZ1.out hb2.size)
  have x0 := HX.out.c0
  have x1 := HX.out.c1
  have x2 := HX.out.c2
  have x3 := HX.out.c3
  have x4 := HX.out.c4
  have y0 := HY2.out.c0
  have y1 := HY2.out.c1
  have y2 := HY2.out.c2
  have y3 := HY2.out.c3
  have y4 := HY2.out.c4
  have f0 := HY2.out.fr 0
  have f1 := HY2.out.fr 1
  have f2 := HY2.out.fr 2
  have f3 := HY2.out.fr 3
  have f4 := HY2.out.fr 4
  have hU : t.doc.textOf VT.uriN = t.uri := rfl
  rw [hU]
  have hres := HY2.out.put (.int .i64 kk) (.bool t.doc.is) (.string t.doc.text) (.slice B m cp) (.slice B' m' cp')
  have r0 := hres.c0
  have r1 := hres.c1
  have r2 := hres.c2
  have r3 := hres.c3
  have r4 := hres.c4
  have HFIN : Hid (VAL (five w2 (w.heap.size + 1) (.int .i64 kk) (.bool t.doc.is) (.string t.doc.text) (.slice B m cp) (.slice B' m' cp')) (New w (five w2 (w.heap.size + 1) (.int .i64 kk) (.bool t.doc.is) (.string t.doc.text) (.slice B m cp) (.slice B' m' cp'))) t.doc (.agg #[.int .i64 kk, .bool t.doc.is, .string t.doc.text, .slice B m cp, .slice B' m' cp'])) :=
    Lib.hid ((HV2.out.same (five_same w2 _ _ _ _ _ _ (fun b hb => by have := hb.1; omega))).mono (fun b hb => ⟨by have := hb.1; omega, by rw [five_size]; have := hb.2; have := hb2.size; omega⟩))
  have HBF := Lib.hid (five_below HB2.out (w.heap.size + 1) (.int .i64 kk) (.bool t.doc.is) (.string t.doc.text) (.slice B m cp) (.slice B' m' cp') (by omega))
  clear hb hb2 hU hres HC HV1 HV2
  generalize hs : t.doc.hasK VT.uriN 3 = so at *
  generalize hu : t.uri = uu at *
  have HU := Lib.hid hu
  clear hu hs
  unfold VT.lenOk at HO
  cases q
  · have HF : Hid (t.uriOk = false) := Lib.hid (by rw [HO.out]; rfl)
    go_wp2
    exact bodyPost_ret (v := .tuple #[.agg #[.int .i64 kk, .bool t.doc.is, .string t.doc.text, .slice B m cp, .slice B' m' cp'], .string uu, .bool false]) (by simp [results, Tryz.results130, go_sem, r0, r1, r2, r3, r4]) rfl ⟨_, by rw [HF.out, HU.out], HFIN.out, HBF.out⟩
  cases so
  · have HF : Hid (t.uriOk = false) := Lib.hid (by rw [HO.out]; simp)
    go_wp2
    exact bodyPost_ret (v := .tuple #[.agg #[.int .i64 kk, .bool t.doc.is, .string t.doc.text, .slice B m cp, .slice B' m' cp'], .string uu, .bool false]) (by simp [results, Tryz.results130, go_sem, r0, r1, r2, r3, r4]) rfl ⟨_, by rw [HF.out, HU.out], HFIN.out, HBF.out⟩
  by_cases h1 : ¬ kk = 5
  · obtain ⟨k1, k2⟩ := int_ne h1
    have HF : Hid (t.uriOk = false) := Lib.hid (by rw [HO.out]; rw [decide_eq_false h1]; rfl)
    clear h1
    go_wp2
    exact bodyPost_ret (v := .tuple #[.agg #[.int .i64 kk, .bool t.doc.is, .string t.doc.text, .slice B m cp, .slice B' m' cp'], .string uu, .bool false]) (by simp [results, Tryz.results130, go_sem, r0, r1, r2, r3, r4]) rfl ⟨_, by rw [HF.out, HU.out], HFIN.out, HBF.out⟩
  replace h1 := Classical.not_not.1 h1
  obtain ⟨k1, k2⟩ := int_eq h1
  have HK := Lib.hid h1
  clear h1
  by_cases h2 : ¬ 1 ≤ uu.size
  · have i0 : uu.size < 1 := by omega
    have d2 : decide (1 ≤ uu.size) = false := decide_eq_false h2
    have d3 : decide ((1 : Int) ≤ (uu.size : Int)) = false := by simp; omega
    clear h2
    have HF : Hid (t.uriOk = false) := Lib.hid (by rw [HO.out]; rw [d2]; simp)
    go_wp2
    exact bodyPost_ret (v := .tuple #[.agg #[.int .i64 kk, .bool t.doc.is, .string t.doc.text, .slice B m cp, .slice B' m' cp'], .string uu, .bool false]) (by simp [results, Tryz.results130, go_sem, r0, r1, r2, r3, r4]) rfl ⟨_, by rw [HF.out, HU.out], HFIN.out, HBF.out⟩
  replace h2 := Classical.not_not.1 h2
  have d2 : decide (1 ≤ uu.size) = true := decide_eq_true h2
  have d3 : decide ((1 : Int) ≤ (uu.size : Int)) = true := by simp; omega
  by_cases h3 : ¬ uu.size ≤ 256
  · have d4 : decide (uu.size ≤ 256) = false := decide_eq_false h3
    have d5 : decide ((uu.size : Int) ≤ 256) = false := by simp; omega
    clear h3
    have HF : Hid (t.uriOk = false) := Lib.hid (by rw [HO.out]; rw [d4]; simp)
    go_wp2
    exact bodyPost_ret (v := .tuple #[.agg #[.int .i64 kk, .bool t.doc.is, .string t.doc.text, .slice B m cp, .slice B' m' cp'], .string uu, .bool false]) (by simp [results, Tryz.results130, go_sem, r0, r1, r2, r3, r4]) rfl ⟨_, by rw [HF.out, HU.out], HFIN.out, HBF.out⟩
  replace h3 := Classical.not_not.1 h3
  have d4 : decide (uu.size ≤ 256) = true := decide_eq_true h3
  have d5 : decide ((uu.size : Int) ≤ 256) = true := by simp; omega
  have HF : Hid (t.uriOk = true) := Lib.hid (by rw [HO.out]; rw [d2, d4, HK.out]; rfl)
  go_wp2
  exact bodyPost_ret (v := .tuple #[.agg #[.int .i64 kk, .bool t.doc.is, .string t.doc.text, .slice B m cp, .slice B' m' cp'], .string uu, .bool true]) (by simp [results, Tryz.results130, go_sem, r0, r1, r2, r3, r4]) rfl ⟨_, by rw [HF.out, HU.out], HFIN.out, HBF.out⟩

/-- what was said of a document that is opened; nothing, if it may not be -/
def opensV (t : VT) : Value := if t.openOk then .tuple #[.string t.uri, .int .i64 (t.doc.wholeN VT.versionN), .string (t.doc.textOf VT.textN), .int .i64 0] else .tuple #[.string ⟨#[]⟩, .int .i64 0, .string ⟨#[]⟩, .int .i64 130]
def closesV (t : VT) : Value := if t.uriOk then .tuple #[.string t.uri, .int .i64 0] else .tuple #[.string ⟨#[]⟩, .int .i64 130]

set_option maxRecDepth 100000 in
set_option maxHeartbeats 4000000 in
theorem refClose_any (t : VT) (w : World) (S : Nat → Prop) (v : Value) (h : VAL w S t v) (hS : ∀ b, S b → b < w.heap.size) (hbk : t.bulk ≤ 1000000000) :
    Calls Tryz.prog 61 #[v] w fun e w' => e = .returned (closesV t) ∧ Below w.heap.size w w' := by
  have HG := Lib.hid (fun W (hb : Below w.heap.size w W) => refUri_any t W S v (h.on hS hb) (fun b hb' => Nat.lt_of_lt_of_le (hS b hb') hb.size) (by omega))
  obtain ⟨A, n, cap, A', n', cap', rfl⟩ := h.parts
  clear h hS hbk
  go_enter Tryz.func61, Tryz.ntmps61
  go_wp2_with fail
  refine (HG.out _ ((Below.refl _ _).alloc (Nat.le_refl _) _)).mono ?_
  rintro e w1 ⟨v', rfl, hv, hb⟩
  obtain ⟨B, m, cp, B', m', cp', rfl⟩ := hv.parts
  have HB1 := Lib.hid ((((Below.refl w.heap.size w).alloc (Nat.le_refl _) _).trans (hb.mono (by simp))))
  clear hv hb
  cases hq : t.uriOk
  · have HF : Hid (closesV t = .tuple #[.string ⟨#[]⟩, .int .i64 130]) := Lib.hid (by unfold closesV; rw [hq]; rfl)
    clear hq
    go_wp2
    go_ret2
    exact ⟨by rw [HF.out]; rfl, HB1.out.alloc HB1.out.size _⟩
  · have HF : Hid (closesV t = .tuple #[.string t.uri, .int .i64 0]) := Lib.hid (by unfold closesV; rw [hq]; rfl)
    clear hq
    go_wp2
    go_ret2
    exact ⟨by rw [HF.out]; rfl, HB1.out.alloc HB1.out.size _⟩

set_option maxRecDepth 100000 in
set_option maxHeartbeats 4000000 in
theorem refOpen_any (t : VT) (w : World) (S : Nat → Prop) (v : Value) (h : VAL w S t v) (hS : ∀ b, S b → b < w.heap.size) (hbk : t.bulk ≤ 999999990) :
    Calls Tryz.prog 59 #[v] w fun e w' => e = .returned (opensV t) ∧ Below w.heap.size w w' := by
  have HG := Lib.hid (fun W (hb : Below w.heap.size w W) => refUri_any t W S v (h.on hS hb) (fun b hb' => Nat.lt_of_lt_of_le (hS b hb') hb.size) (by omega))
  have hdb : t.doc.bulk ≤ 1000000000 := by have := VT.getD_bulk t VT.tdN; unfold VT.doc; omega
  have HDB := Lib.hid hdb
  obtain ⟨A, n, cap, A', n', cap', rfl⟩ := h.parts
  clear h hS hbk hdb
  go_enter Tryz.func59, Tryz.ntmps59
  go_wp2_with fail
  refine (HG.out _ ((Below.refl _ _).alloc (Nat.le_refl _) _)).mono ?_
  rintro e w1 ⟨v', rfl, hv, hb⟩
  obtain ⟨B, m, cp, B', m', cp', rfl⟩ := hv.parts
  have HB1 := Lib.hid ((((Below.refl w.heap.size w).alloc (Nat.le_refl _) _).trans (hb.mono (by simp))))
  have HV1 := Lib.hid (hv.mono (S' := fun b => b < w1.heap.size) New_old)
  have HC1 := Lib.hid (fun W (hb : Below w1.heap.size w1 W) => refWhole_any t.doc VT.versionN 9007199254740991 W _ _ (HV1.out.on (fun b hb => hb) hb) (fun b hb' => Nat.lt_of_lt_of_le hb' hb.size) HDB.out)
  have HC2 := Lib.hid (fun W (hb : Below w1.heap.size w1 W) => refText_any t.doc VT.textN W _ _ (HV1.out.on (fun b hb => hb) hb) (fun b hb' => Nat.lt_of_lt_of_le hb' hb.size) (by have := HDB.out; omega))
  have HO := Lib.hid (show t.openOk = (t.uriOk && t.doc.wholeOk VT.versionN 9007199254740991 && t.doc.hasK VT.textN 3) from rfl)
  clear hv hb HG
  go_wp2_with fail
  refine (HC1.out _ ((Below.refl _ _).alloc (Nat.le_refl _) _)).mono ?_
  rintro e w2 ⟨rfl, hb⟩
  have HX := Lib.hid ((BX.new w1 (.int .i64 t.doc.kind) (.bool t.doc.is) (.string t.doc.text) (.slice B m cp) (.slice B' m' cp')).on hb)
  have x0 := HX.out.c0
  have x1 := HX.out.c1
  have x2 := HX.out.c2
  have x3 := HX.out.c3
  have x4 := HX.out.c4
  have HB2 := Lib.hid (((Below.refl w1.heap.size w1).alloc (Nat.le_refl _) (.cells #[.int .i64 t.doc.kind, .bool t.doc.is, .string t.doc.text, .slice B m cp, .slice B' m' cp'] 25)).trans (hb.mono (by simp)))
  clear hb HC1 HX
  go_wp2_with fail
  refine (HC2.out _ HB2.out).mono ?_
  rintro e w3 ⟨rfl, hb⟩
  have HB3 := Lib.hid (HB1.out.trans ((HB2.out.trans (hb.mono HB2.out.size)).mono HB1.out.size))
  clear hb HC2 x0 x1 x2 x3 x4
  have HP : Hid (t.openOk = true → opensV t = .tuple #[.string t.uri, .int .i64 (t.doc.wholeN VT.versionN), .string (t.doc.textOf VT.textN), .int .i64 0]) := Lib.hid (fun hq => by unfold opensV; rw [hq]; rfl)
  have HNO : Hid (t.openOk = false → opensV t = .tuple #[.string ⟨#[]⟩, .int .i64 0, .string ⟨#[]⟩, .int .i64 130]) := Lib.hid (fun hq => by unfold opensV; rw [hq]; rfl)
  generalize t.uriOk = q1 at *
  generalize t.doc.wholeOk VT.versionN 9007199254740991 = q2 at *
  generalize t.doc.hasK VT.textN 3 = q3 at *
  cases q1
  · go_wp2
    exact bodyPost_ret (v := .tuple #[.string ⟨#[]⟩, .int .i64 0, .string ⟨#[]⟩, .int .i64 130]) (by simp [results, Tryz.results59, go_sem]) rfl ⟨by rw [HNO.out (by rw [HO.out]; rfl)], HB3.out⟩
  cases q2
  · go_wp2
    exact bodyPost_ret (v := .tuple #[.string ⟨#[]⟩, .int .i64 0, .string ⟨#[]⟩, .int .i64 130]) (by simp [results, Tryz.results59, go_sem]) rfl ⟨by rw [HNO.out (by rw [HO.out]; rfl)], HB3.out⟩
  cases q3
  · go_wp2
    exact bodyPost_ret (v := .tuple #[.string ⟨#[]⟩, .int .i64 0, .string ⟨#[]⟩, .int .i64 130]) (by simp [results, Tryz.results59, go_sem]) rfl ⟨by rw [HNO.out (by rw [HO.out]; rfl)], HB3.out⟩
  · go_wp2
    exact bodyPost_ret (v := .tuple #[.string t.uri, .int .i64 (t.doc.wholeN VT.versionN), .string (t.doc.textOf VT.textN), .int .i64 0]) (by simp [results, Tryz.results59, go_sem]) rfl ⟨by rw [HP.out (by rw [HO.out]; rfl)], HB3.out⟩
end Go.Proofs.YtfploakafbnigaaGreatDoor
namespace Go.Proofs.YtfploakafbnigaaGreatDoor
open Go.RowKit Val
set_option linter.unusedVariables false
set_option linter.unusedSimpArgs false

/-- the reader lies in block g -/
def RDB (w : World) (g : Nat) (b : Bool) : Prop := w.heap[g]? = some (.cells #[.bool b] 156 (0, 0))
theorem RDB.lt {w : World} {g : Nat} {b : Bool} (h : RDB w g b) : g < w.heap.size := (Array.getElem?_eq_some_iff.1 h).1
theorem RDB.c {w : World} {g : Nat} {b : Bool} (h : RDB w g b) : w.cell? ⟨g, 0, none⟩ = some (.bool b) := by rw [cell_of_row w g 0 _ _ _ h]; rfl
theorem RDB.fr {w : World} {g : Nat} {b : Bool} (h : RDB w g b) : w.frozen? ⟨g, 0, none⟩ = false := by unfold RDB at h; simp [World.frozen?, h]
theorem RDB.on {w w' : World} {g : Nat} {b : Bool} (h : RDB w g b) (hb : Below w.heap.size w w') : RDB w' g b := (hb.block g h.lt).trans h
theorem RDB.set {w : World} {g : Nat} {b : Bool} (h : RDB w g b) (z : Bool) : RDB (w.setCell ⟨g, 0, none⟩ (.bool z)) g z := by
  unfold RDB at h ⊢
  simp [World.setCell, Array.getElem?_modify, h]
theorem RDB.new (w : World) (b : Bool) : RDB (w.alloc (.cells #[.bool b] 156)) w.heap.size b := heap_alloc_new w _
/-- but for block g nothing that was there has turned -/
structure But (g : Nat) (w w' : World) : Prop where
  os : w'.os = w.os
  tape : w'.tape = w.tape
  output : w'.output = w.output
  size : w.heap.size ≤ w'.heap.size
  block : ∀ k, k < w.heap.size → k ≠ g → w'.heap[k]? = w.heap[k]?
theorem But.of {g : Nat} {w w' : World} (h : Below w.heap.size w w') : But g w w' := ⟨h.os, h.tape, h.output, h.size, fun k hk _ => h.block k hk⟩
theorem But.trans {g : Nat} {w w1 w2 : World} (h : But g w w1) (k : But g w1 w2) : But g w w2 :=
  ⟨k.os.trans h.os, k.tape.trans h.tape, k.output.trans h.output, Nat.le_trans h.size k.size, fun b hb hg => (k.block b (Nat.lt_of_lt_of_le hb h.size) hg).trans (h.block b hb hg)⟩
theorem But.set (g : Nat) (w : World) (u : Value) : But g w (w.setCell ⟨g, 0, none⟩ u) := ⟨rfl, rfl, rfl, by simp [World.setCell], fun k _ hg => Below.heap_setCell w _ u k hg⟩
/-- from below a block that the call made -/
theorem But.below {g B : Nat} {w0 w w' : World} (h : But g w w') (hb : Below B w0 w) (hg : B ≤ g) (hB : B ≤ w.heap.size) : Below B w0 w' :=
  hb.trans ⟨h.os, h.tape, h.output, h.size, fun k hk => h.block k (by omega) (by omega)⟩
theorem But.same {g : Nat} {w w' : World} {S : Nat → Prop} (h : But g w w') (hS : ∀ b, S b → b < w.heap.size ∧ b ≠ g) : Same S w w' := fun b hb => h.block b (hS b hb).1 (hS b hb).2
theorem ML.but {g : Nat} {w w' : World} (h : ML w) (hb : But g w w') (hg : 1 ≠ g) : ML w' := by
  obtain ⟨m, hm⟩ := h
  exact ⟨m, (World.cell?_of_block (w := w) (hb.block _ (ML.lt ⟨m, hm⟩) hg)).trans hm⟩
theorem BX.but {w w' : World} {g g' : Nat} {v0 v1 v2 v3 v4 : Value} (h : BX w g' v0 v1 v2 v3 v4) (hb : But g w w') (hg : g' ≠ g) : BX w' g' v0 v1 v2 v3 v4 := (hb.block g' h.lt hg).trans h

set_option maxHeartbeats 1000000 in
theorem must_any (g : Nat) (b ok : Bool) (w : World) (h : RDB w g b) :
    Calls Tryz.prog 133 #[.pointer (some ⟨g, 0, none⟩), .bool ok] w fun e w' => e = .returned (.tuple #[]) ∧ RDB w' g (b || !ok) ∧ But g w w' := by
  have h0 := h.c
  have hf := h.fr
  have H := Lib.hid h
  clear h
  cases b
  · go_enter Tryz.func133, Tryz.ntmps133
    go_wp2
    go_end0
    exact ⟨rfl, H.out.set _, But.set g w _⟩
  · go_enter Tryz.func133, Tryz.ntmps133
    go_wp2
    go_end0
    exact ⟨rfl, H.out.set _, But.set g w _⟩

/-- a member, of a kind or not -/
def Memb (t : VT) (nm : ByteArray) (k : Int) (g : Nat) (b : Bool) (w : World) (e : Ending) (w' : World) : Prop :=
  ∃ v', e = .returned v' ∧ VAL w' (New w w') (t.getD nm) v' ∧ RDB w' g (b || !t.hasK nm k) ∧ But g w w'
theorem But.far {g : Nat} {w0 w : World} (h : But g w0 w) (p : Addr) (u : Value) (hg : w0.heap.size ≤ p.block) : But g w0 (w.setCell p u) :=
  ⟨h.os, h.tape, h.output, by simpa [World.setCell] using h.size, fun k hk hne => (Below.heap_setCell w p u k (by omega)).trans (h.block k hk hne)⟩
theorem But.five {g : Nat} {w0 w : World} (h : But g w0 w) (g' : Nat) (u0 u1 u2 u3 u4 : Value) (hg : w0.heap.size ≤ g') : But g w0 (five w g' u0 u1 u2 u3 u4) :=
  ((((h.far ⟨g', 0, none⟩ u0 hg).far ⟨g', 1, none⟩ u1 hg).far ⟨g', 2, none⟩ u2 hg).far ⟨g', 3, none⟩ u3 hg).far ⟨g', 4, none⟩ u4 hg
theorem RDB.far {w : World} {g : Nat} {b : Bool} (h : RDB w g b) {p : Addr} (u : Value) (hp : g ≠ p.block) : RDB (w.setCell p u) g b := (Below.heap_setCell w p u g hp).trans h
theorem RDB.five {w : World} {g : Nat} {b : Bool} (h : RDB w g b) (g' : Nat) (u0 u1 u2 u3 u4 : Value) (hg : g ≠ g') : RDB (five w g' u0 u1 u2 u3 u4) g b :=
  ((((h.far (p := ⟨g', 0, none⟩) u0 hg).far (p := ⟨g', 1, none⟩) u1 hg).far (p := ⟨g', 2, none⟩) u2 hg).far (p := ⟨g', 3, none⟩) u3 hg).far (p := ⟨g', 4, none⟩) u4 hg
theorem RDB.eq {w : World} {g : Nat} {b b' : Bool} (h : RDB w g b) (e : b = b') : RDB w g b' := e ▸ h

set_option maxRecDepth 100000 in
set_option maxHeartbeats 2000000 in
theorem member_any (t : VT) (nm : ByteArray) (k : Int) (w : World) (S : Nat → Prop) (v : Value) (g : Nat) (b : Bool) (h : VAL w S t v) (hS : ∀ x, S x → x < w.heap.size) (hr : RDB w g b) (hbk : t.bulk ≤ 1000000020) :
    Calls Tryz.prog 129 #[.pointer (some ⟨g, 0, none⟩), v, .string nm, .int .i64 k] w (Memb t nm k g b w) := by
  have HG := Lib.hid (fun W (hb : Below w.heap.size w W) => Get_any t nm W S v (h.on hS hb) (fun b hb' => Nat.lt_of_lt_of_le (hS b hb') hb.size) (by omega))
  obtain ⟨A, n, cap, A', n', cap', rfl⟩ := h.parts
  have HRD := Lib.hid hr
  clear h hS hbk hr
  go_enter Tryz.func129, Tryz.ntmps129
  go_wp2_with fail
  refine (HG.out _ (al2_below _ _ _)).mono ?_
  rintro e w1 ⟨v', rfl, hv, hb⟩
  obtain ⟨B, m, cp, B', m', cp', rfl⟩ := hv.parts
  have HB1 := Lib.hid ((al2_below w (.cells #[.int .i64 t.kind, .bool t.is, .string t.text, .slice A n cap, .slice A' n' cap'] 25) (.cells #[.int .i64 0, .bool false, .string ⟨#[]⟩, .slice none 0 0, .slice none 0 0] 25)).trans (hb.mono (by simp; omega)))
  have HY1 : Hid (BX w1 (w.heap.size + 1) (.int .i64 0) (.bool false) (.string ⟨#[]⟩) (.slice none 0 0) (.slice none 0 0)) := Lib.hid (BX.on (al2_1 _ _ _) hb)
  have HZ1 : Hid (w.heap.size + 2 ≤ w1.heap.size) := Lib.hid (by have := hb.size; simp at this; omega)
  have HV1 : Hid (VAL w1 (fun b => w.heap.size + 2 ≤ b ∧ b < w1.heap.size) (t.getD nm) _) := Lib.hid (hv.mono (fun b hb => ⟨by have := hb.1; simp at this; omega, hb.2⟩))
  have HR1 := Lib.hid (HRD.out.on HB1.out)
  clear hv hb HG
  generalize hq : (t.get nm).isSome = q at *
  generalize hk : (t.getD nm).kind = kk at *
  have HO := Lib.hid (show t.hasK nm k = (q && decide (kk = k)) by rw [← hq, ← hk]; rfl)
  clear hq hk
  have hA := (Below.refl w1.heap.size w1).alloc (Nat.le_refl _) (.cells #[.int .i64 kk, .bool (t.getD nm).is, .string (t.getD nm).text, .slice B m cp, .slice B' m' cp'] 25)
  have HBX := Lib.hid (BX.new w1 (.int .i64 kk) (.bool (t.getD nm).is) (.string (t.getD nm).text) (.slice B m cp) (.slice B' m' cp'))
  have HRA := Lib.hid (HR1.out.on hA)
  have HYA := Lib.hid (HY1.out.on hA)
  have HVA := Lib.hid (HV1.out.on (fun b hb => hb.2) hA)
  have HBA := Lib.hid (HB1.out.trans (hA.mono HB1.out.size))
  have HZA := Lib.hid hA.size
  clear hA
  have HM : ∀ ok, Hid (Calls Tryz.prog 133 #[.pointer (some ⟨g, 0, none⟩), .bool ok] (w1.alloc (.cells #[.int .i64 kk, .bool (t.getD nm).is, .string (t.getD nm).text, .slice B m cp, .slice B' m' cp'] 25)) fun e w' => e = .returned (.tuple #[]) ∧ RDB w' g (b || !ok) ∧ But g (w1.alloc (.cells #[.int .i64 kk, .bool (t.getD nm).is, .string (t.getD nm).text, .slice B m cp, .slice B' m' cp'] 25)) w') := fun ok => Lib.hid (must_any g b ok _ HRA.out)
  have HGL := Lib.hid (HRD.out.lt)
  cases q
  · go_wp2_with fail
    refine ((HM false).out).mono ?_
    rintro e w2 ⟨rfl, hr, hbu⟩
    have hw1 : w1.heap.size ≠ g := by have := HZ1.out; have := HGL.out; omega
    have hw2 : w.heap.size + 1 ≠ g := by have := HGL.out; omega
    have HX2 := Lib.hid (HBX.out.but hbu hw1)
    have HY2 := Lib.hid (HYA.out.but hbu hw2)
    have HV2 := Lib.hid (HVA.out.same (hbu.same (fun b hb => by have := hb.1; have := hb.2; have := HZA.out; have := HGL.out; omega)))
    have HR2 : Hid (RDB w2 g (b || !t.hasK nm k)) := Lib.hid (hr.eq (by rw [HO.out]; rfl))
    have HB2 := Lib.hid ((But.of HBA.out).trans hbu)
    have HS2 := Lib.hid (Nat.le_trans HZA.out hbu.size)
    have x0 := HX2.out.c0
    have x1 := HX2.out.c1
    have x2 := HX2.out.c2
    have x3 := HX2.out.c3
    have x4 := HX2.out.c4
    have y0 := HY2.out.c0
    have y1 := HY2.out.c1
    have y2 := HY2.out.c2
    have y3 := HY2.out.c3
    have y4 := HY2.out.c4
    have f0 := HY2.out.fr 0
    have f1 := HY2.out.fr 1
    have f2 := HY2.out.fr 2
    have f3 := HY2.out.fr 3
    have f4 := HY2.out.fr 4
    have hres := HY2.out.put (.int .i64 kk) (.bool (t.getD nm).is) (.string (t.getD nm).text) (.slice B m cp) (.slice B' m' cp')
    have r0 := hres.c0
    have r1 := hres.c1
    have r2 := hres.c2
    have r3 := hres.c3
    have r4 := hres.c4
    clear hr hbu hres hw1 hw2
    go_wp2
    exact bodyPost_ret (v := .agg #[.int .i64 kk, .bool (t.getD nm).is, .string (t.getD nm).text, .slice B m cp, .slice B' m' cp']) (by simp [results, Tryz.results129, go_sem, r0, r1, r2, r3, r4]) rfl
      ⟨_, rfl, (HV2.out.same (five_same w2 (w.heap.size + 1) _ _ _ _ _ (fun b hb => by have := hb.1; omega))).mono (fun b hb => ⟨by have := hb.1; omega, Nat.lt_of_lt_of_eq (Nat.lt_of_lt_of_le hb.2 HS2.out) (five_size w2 (w.heap.size + 1) _ _ _ _ _).symm⟩),
        HR2.out.five (w.heap.size + 1) _ _ _ _ _ (by have := HGL.out; omega), HB2.out.five (w.heap.size + 1) _ _ _ _ _ (by omega)⟩
  by_cases h1 : ¬ kk = k
  · obtain ⟨k1, k2⟩ := int_ne h1
    have HK := Lib.hid (decide_eq_false h1)
    clear h1
    go_wp2_with fail
    refine ((HM false).out).mono ?_
    rintro e w2 ⟨rfl, hr, hbu⟩
    have hw1 : w1.heap.size ≠ g := by have := HZ1.out; have := HGL.out; omega
    have hw2 : w.heap.size + 1 ≠ g := by have := HGL.out; omega
    have HX2 := Lib.hid (HBX.out.but hbu hw1)
    have HY2 := Lib.hid (HYA.out.but hbu hw2)
    have HV2 := Lib.hid (HVA.out.same (hbu.same (fun b hb => by have := hb.1; have := hb.2; have := HZA.out; have := HGL.out; omega)))
    have HR2 : Hid (RDB w2 g (b || !t.hasK nm k)) := Lib.hid (hr.eq (by rw [HO.out]; rw [HK.out]; rfl))
    have HB2 := Lib.hid ((But.of HBA.out).trans hbu)
    have HS2 := Lib.hid (Nat.le_trans HZA.out hbu.size)
    have x0 := HX2.out.c0
    have x1 := HX2.out.c1
    have x2 := HX2.out.c2
    have x3 := HX2.out.c3
    have x4 := HX2.out.c4
    have y0 := HY2.out.c0
    have y1 := HY2.out.c1
    have y2 := HY2.out.c2
    have y3 := HY2.out.c3
    have y4 := HY2.out.c4
    have f0 := HY2.out.fr 0
    have f1 := HY2.out.fr 1
    have f2 := HY2.out.fr 2
    have f3 := HY2.out.fr 3
    have f4 := HY2.out.fr 4
    have hres := HY2.out.put (.int .i64 kk) (.bool (t.getD nm).is) (.string (t.getD nm).text) (.slice B m cp) (.slice B' m' cp')
    have r0 := hres.c0
    have r1 := hres.c1
    have r2 := hres.c2
    have r3 := hres.c3
    have r4 := hres.c4
    clear hr hbu hres hw1 hw2
    go_wp2
    exact bodyPost_ret (v := .agg #[.int .i64 kk, .bool (t.getD nm).is, .string (t.getD nm).text, .slice B m cp, .slice B' m' cp']) (by simp [results, Tryz.results129, go_sem, r0, r1, r2, r3, r4]) rfl
      ⟨_, rfl, (HV2.out.same (five_same w2 (w.heap.size + 1) _ _ _ _ _ (fun b hb => by have := hb.1; omega))).mono (fun b hb => ⟨by have := hb.1; omega, Nat.lt_of_lt_of_eq (Nat.lt_of_lt_of_le hb.2 HS2.out) (five_size w2 (w.heap.size + 1) _ _ _ _ _).symm⟩),
        HR2.out.five (w.heap.size + 1) _ _ _ _ _ (by have := HGL.out; omega), HB2.out.five (w.heap.size + 1) _ _ _ _ _ (by omega)⟩
  replace h1 := Classical.not_not.1 h1
  obtain ⟨k1, k2⟩ := int_eq h1
  have HK := Lib.hid (decide_eq_true h1)
  clear h1
  go_wp2_with fail
  refine ((HM true).out).mono ?_
  rintro e w2 ⟨rfl, hr, hbu⟩
  have hw1 : w1.heap.size ≠ g := by have := HZ1.out; have := HGL.out; omega
  have hw2 : w.heap.size + 1 ≠ g := by have := HGL.out; omega
  have HX2 := Lib.hid (HBX.out.but hbu hw1)
  have HY2 := Lib.hid (HYA.out.but hbu hw2)
  have HV2 := Lib.hid (HVA.out.same (hbu.same (fun b hb => by have := hb.1; have := hb.2; have := HZA.out; have := HGL.out; omega)))
  have HR2 : Hid (RDB w2 g (b || !t.hasK nm k)) := Lib.hid (hr.eq (by rw [HO.out]; rw [HK.out]; rfl))
  have HB2 := Lib.hid ((But.of HBA.out).trans hbu)
  have HS2 := Lib.hid (Nat.le_trans HZA.out hbu.size)
  have x0 := HX2.out.c0
  have x1 := HX2.out.c1
  have x2 := HX2.out.c2
  have x3 := HX2.out.c3
  have x4 := HX2.out.c4
  have y0 := HY2.out.c0
  have y1 := HY2.out.c1
  have y2 := HY2.out.c2
  have y3 := HY2.out.c3
  have y4 := HY2.out.c4
  have f0 := HY2.out.fr 0
  have f1 := HY2.out.fr 1
  have f2 := HY2.out.fr 2
  have f3 := HY2.out.fr 3
  have f4 := HY2.out.fr 4
  have hres := HY2.out.put (.int .i64 kk) (.bool (t.getD nm).is) (.string (t.getD nm).text) (.slice B m cp) (.slice B' m' cp')
  have r0 := hres.c0
  have r1 := hres.c1
  have r2 := hres.c2
  have r3 := hres.c3
  have r4 := hres.c4
  clear hr hbu hres hw1 hw2
  go_wp2
  exact bodyPost_ret (v := .agg #[.int .i64 kk, .bool (t.getD nm).is, .string (t.getD nm).text, .slice B m cp, .slice B' m' cp']) (by simp [results, Tryz.results129, go_sem, r0, r1, r2, r3, r4]) rfl
    ⟨_, rfl, (HV2.out.same (five_same w2 (w.heap.size + 1) _ _ _ _ _ (fun b hb => by have := hb.1; omega))).mono (fun b hb => ⟨by have := hb.1; omega, Nat.lt_of_lt_of_eq (Nat.lt_of_lt_of_le hb.2 HS2.out) (five_size w2 (w.heap.size + 1) _ _ _ _ _).symm⟩),
      HR2.out.five (w.heap.size + 1) _ _ _ _ _ (by have := HGL.out; omega), HB2.out.five (w.heap.size + 1) _ _ _ _ _ (by omega)⟩
end Go.Proofs.YtfploakafbnigaaGreatDoor
namespace Go.Proofs.YtfploakafbnigaaGreatDoor
open Go.RowKit Val
set_option linter.unusedVariables false
set_option linter.unusedSimpArgs false

/-- what may be called: strings.Index's variable; the reader is another block -/
structure Rd (w : World) (g : Nat) (b : Bool) : Prop where
  ml : ML w
  ne : 1 ≠ g
  rd : RDB w g b
theorem Rd.on {w w' : World} {g : Nat} {b : Bool} (h : Rd w g b) (hb : Below w.heap.size w w') : Rd w' g b := ⟨h.ml.on hb, h.ne, h.rd.on hb⟩
theorem Rd.but {w w' : World} {g : Nat} {b b' : Bool} (h : Rd w g b) (hb : But g w w') (hr : RDB w' g b') : Rd w' g b' := ⟨h.ml.but hb h.ne, h.ne, hr⟩
theorem fieldText (k : Int) (i : Bool) (x : ByteArray) (a b : Value) (W : World) : (Instr.field 25 (.agg #[.int .i64 k, .bool i, .string x, a, b]) 2).run Tryz.prog W = .ok (.string x) W := by kernel_rfl
theorem fieldList (k : Int) (i : Bool) (x : ByteArray) (a b : Value) (W : World) : (Instr.field 25 (.agg #[.int .i64 k, .bool i, .string x, a, b]) 3).run Tryz.prog W = .ok a W := by kernel_rfl
def WholeP (t : VT) (nm : ByteArray) (most : Int) (g : Nat) (b : Bool) (w : World) (e : Ending) (w' : World) : Prop :=
  e = .returned (.int .i64 (t.wholeN nm)) ∧ RDB w' g (b || !t.wholeOk nm most) ∧ But g w w'

set_option maxRecDepth 100000 in
set_option maxHeartbeats 2000000 in
theorem whole_any (t : VT) (nm : ByteArray) (most : Int) (w : World) (S : Nat → Prop) (v : Value) (g : Nat) (b : Bool) (h : VAL w S t v) (hS : ∀ x, S x → x < w.heap.size) (hr : Rd w g b) (hbk : t.bulk ≤ 1000000010) :
    Calls Tryz.prog 128 #[.pointer (some ⟨g, 0, none⟩), v, .string nm, .int .i64 most] w (WholeP t nm most g b w) := by
  have HT := Lib.hid (show (t.getD nm).text.data.toList.length ≤ 1000000100 by
    rw [list_len]
    have := VT.text_bulk (t.getD nm)
    have := VT.getD_bulk t nm
    omega)
  have HG := Lib.hid (fun W (hb : Below w.heap.size w W) => member_any t nm 2 W S v g b (h.on hS hb) (fun b hb' => Nat.lt_of_lt_of_le (hS b hb') hb.size) (hr.rd.on hb) (by omega))
  obtain ⟨A, n, cap, A', n', cap', rfl⟩ := h.parts
  have HRD := Lib.hid hr
  clear h hS hbk hr
  have fl := fieldText
  go_enter Tryz.func128, Tryz.ntmps128
  go_wp2_with fail
  have hA := (Below.refl w.heap.size w).alloc (Nat.le_refl _) (.cells #[.int .i64 t.kind, .bool t.is, .string t.text, .slice A n cap, .slice A' n' cap'] 25)
  have HRA := Lib.hid (HRD.out.on hA)
  have HBA := Lib.hid hA
  clear hA
  refine (HG.out _ HBA.out).mono ?_
  rintro e w1 ⟨v', rfl, hv, hrd, hbu⟩
  obtain ⟨B, m, cp, B', m', cp', rfl⟩ := hv.parts
  have HR1 := Lib.hid (HRA.out.but hbu hrd)
  have HB1 := Lib.hid ((But.of HBA.out).trans hbu)
  obtain ⟨r, ro, hR⟩ : ∃ r ro, (t.getD nm).numOf = (r, ro) := ⟨_, _, rfl⟩
  have HI : Hid (Calls Tryz.prog 136 #[.string (t.getD nm).text] w1 fun e w' => e = .returned (.tuple #[.int .i64 (t.getD nm).numOf.1, .bool (t.getD nm).numOf.2]) ∧ Below w1.heap.size w1 w') := Lib.hid (Int_any (t.getD nm).text _ rfl w1 HR1.out.ml (by have := HT.out; omega))
  rw [hR] at HI
  have HN := Lib.hid (show t.wholeN nm = r by unfold VT.wholeN; rw [hR])
  have HO := Lib.hid (show t.wholeOk nm most = (t.hasK nm 2 && (ro && decide (0 ≤ r) && decide (r ≤ most))) by unfold VT.wholeOk VT.inR; rw [hR])
  clear hv hrd hbu hR
  go_wp2_with fail
  refine (HI.out).mono ?_
  rintro e w2 ⟨rfl, hb⟩
  have HR2 := Lib.hid (HR1.out.on hb)
  have HB2 := Lib.hid (HB1.out.trans (But.of hb))
  have HM := fun ok => Lib.hid (must_any g (b || !t.hasK nm 2) ok w2 HR2.out.rd)
  clear hb
  cases ro
  · go_wp2_with fail
    refine ((HM false).out).mono ?_
    rintro e w3 ⟨rfl, hr, hbu⟩
    have HR3 : Hid (RDB w3 g (b || !t.wholeOk nm most)) := Lib.hid (hr.eq (by rw [HO.out]; cases b <;> cases t.hasK nm 2 <;> rfl))
    have HB3 := Lib.hid (HB2.out.trans hbu)
    clear hr hbu
    go_wp2
    go_ret
    exact ⟨by rw [HN.out]; rfl, HR3.out, HB3.out⟩
  by_cases h2 : ¬ 0 ≤ r
  · have d2 : decide (0 ≤ r) = false := decide_eq_false h2
    go_wp2_with fail
    refine ((HM false).out).mono ?_
    rintro e w3 ⟨rfl, hr, hbu⟩
    have HR3 : Hid (RDB w3 g (b || !t.wholeOk nm most)) := Lib.hid (hr.eq (by rw [HO.out]; rw [d2]; cases b <;> cases t.hasK nm 2 <;> rfl))
    have HB3 := Lib.hid (HB2.out.trans hbu)
    clear hr hbu
    go_wp2
    go_ret
    exact ⟨by rw [HN.out]; rfl, HR3.out, HB3.out⟩
  replace h2 := Classical.not_not.1 h2
  have d2 : decide (0 ≤ r) = true := decide_eq_true h2
  by_cases h3 : ¬ r ≤ most
  · have d3 : decide (r ≤ most) = false := decide_eq_false h3
    go_wp2_with fail
    refine ((HM false).out).mono ?_
    rintro e w3 ⟨rfl, hr, hbu⟩
    have HR3 : Hid (RDB w3 g (b || !t.wholeOk nm most)) := Lib.hid (hr.eq (by rw [HO.out]; rw [d2, d3]; cases b <;> cases t.hasK nm 2 <;> rfl))
    have HB3 := Lib.hid (HB2.out.trans hbu)
    clear hr hbu
    go_wp2
    go_ret
    exact ⟨by rw [HN.out]; rfl, HR3.out, HB3.out⟩
  replace h3 := Classical.not_not.1 h3
  have d3 : decide (r ≤ most) = true := decide_eq_true h3
  go_wp2_with fail
  refine ((HM true).out).mono ?_
  rintro e w3 ⟨rfl, hr, hbu⟩
  have HR3 : Hid (RDB w3 g (b || !t.wholeOk nm most)) := Lib.hid (hr.eq (by rw [HO.out]; rw [d2, d3]; cases b <;> cases t.hasK nm 2 <;> rfl))
  have HB3 := Lib.hid (HB2.out.trans hbu)
  clear hr hbu
  go_wp2
  go_ret
  exact ⟨by rw [HN.out]; rfl, HR3.out, HB3.out⟩

/-- what is said of a document, and its name -/
def DocP (t : VT) (g : Nat) (b : Bool) (w : World) (e : Ending) (w' : World) : Prop :=
  ∃ v', e = .returned (.tuple #[v', .string t.uri]) ∧ VAL w' (New w w') t.doc v' ∧ RDB w' g (b || !t.uriOk) ∧ But g w w'
theorem VAL.but {w w' : World} {g : Nat} {S : Nat → Prop} {t : VT} {v : Value} (h : VAL w S t v) (hb : But g w w') (hS : ∀ b, S b → b < w.heap.size ∧ b ≠ g) : VAL w' S t v := h.same (hb.same hS)

set_option maxRecDepth 100000 in
set_option maxHeartbeats 4000000 in
theorem document_any (t : VT) (w : World) (S : Nat → Prop) (v : Value) (g : Nat) (b : Bool) (h : VAL w S t v) (hS : ∀ x, S x → x < w.heap.size) (hr : Rd w g b) (hbk : t.bulk ≤ 1000000000) :
    Calls Tryz.prog 127 #[.pointer (some ⟨g, 0, none⟩), v] w (DocP t g b w) := by
  have HG := Lib.hid (fun W (hb : Below w.heap.size w W) => member_any t VT.tdN 5 W S v g b (h.on hS hb) (fun b hb' => Nat.lt_of_lt_of_le (hS b hb') hb.size) (hr.rd.on hb) (by omega))
  have hdb : t.doc.bulk ≤ 1000000001 := by have := VT.getD_bulk t VT.tdN; unfold VT.doc; omega
  have HDB := Lib.hid hdb
  obtain ⟨A, n, cap, A', n', cap', rfl⟩ := h.parts
  have HRD := Lib.hid hr
  have HGL := Lib.hid (hr.rd.lt)
  clear h hS hbk hr hdb
  have fl := fieldText
  go_enter Tryz.func127, Tryz.ntmps127
  go_wp2_with fail
  have HBA := Lib.hid (al2_below w (.cells #[.int .i64 t.kind, .bool t.is, .string t.text, .slice A n cap, .slice A' n' cap'] 25) (.cells #[.int .i64 0, .bool false, .string ⟨#[]⟩, .slice none 0 0, .slice none 0 0] 25))
  have HYA : Hid (BX _ (w.heap.size + 1) (.int .i64 0) (.bool false) (.string ⟨#[]⟩) (.slice none 0 0) (.slice none 0 0)) := Lib.hid (al2_1 w (.cells #[.int .i64 t.kind, .bool t.is, .string t.text, .slice A n cap, .slice A' n' cap'] 25) (.cells #[.int .i64 0, .bool false, .string ⟨#[]⟩, .slice none 0 0, .slice none 0 0] 25))
  have HRA := Lib.hid (HRD.out.on HBA.out)
  have HZA : Hid (w.heap.size + 2 ≤ ((w.alloc (.cells #[.int .i64 t.kind, .bool t.is, .string t.text, .slice A n cap, .slice A' n' cap'] 25)).alloc (.cells #[.int .i64 0, .bool false, .string ⟨#[]⟩, .slice none 0 0, .slice none 0 0] 25)).heap.size) := Lib.hid (by simp)
  refine (HG.out _ HBA.out).mono ?_
  rintro e w1 ⟨v', rfl, hv, hrd, hbu⟩
  have hv : VAL w1 _ t.doc v' := hv
  obtain ⟨B, m, cp, B', m', cp', rfl⟩ := hv.parts
  have hgne : w.heap.size + 1 ≠ g := by have := HGL.out; omega
  have HR1 := Lib.hid (HRA.out.but hbu hrd)
  have HB1 := Lib.hid ((But.of HBA.out).trans hbu)
  have HY1 := Lib.hid (HYA.out.but hbu hgne)
  have HV1 : Hid (VAL w1 (fun b => w.heap.size + 2 ≤ b ∧ b < w1.heap.size) t.doc _) := Lib.hid (hv.mono (fun b hb => ⟨Nat.le_trans HZA.out hb.1, hb.2⟩))
  have HZ1 := Lib.hid (Nat.le_trans HZA.out hbu.size)
  clear hv hrd hbu HG HYA HRA HBA HZA
  have HC := Lib.hid (fun W (hb : Below w1.heap.size w1 W) => member_any t.doc VT.uriN 3 W _ _ g (b || !t.hasK VT.tdN 5) (HV1.out.on (fun b hb => hb.2) hb) (fun b hb' => Nat.lt_of_lt_of_le hb'.2 hb.size) (HR1.out.rd.on hb) (by have := HDB.out; omega))
  go_wp2_with fail
  have HBB := Lib.hid ((Below.refl w1.heap.size w1).alloc (Nat.le_refl _) (.cells #[.int .i64 t.doc.kind, .bool t.doc.is, .string t.doc.text, .slice B m cp, .slice B' m' cp'] 25))
  have HXB := Lib.hid (BX.new w1 (.int .i64 t.doc.kind) (.bool t.doc.is) (.string t.doc.text) (.slice B m cp) (.slice B' m' cp'))
  have HZB := Lib.hid (HBB.out.size)
  refine (HC.out _ HBB.out).mono ?_
  rintro e w2 ⟨v2, rfl, hv, hrd, hbu⟩
  obtain ⟨C, m2, cp2, C', m2', cp2', rfl⟩ := hv.parts
  have hU : (t.doc.getD VT.uriN).text = t.uri := rfl
  rw [hU] at hv ⊢
  have hgne2 : w1.heap.size ≠ g := by have := HGL.out; have := HZ1.out; omega
  have HR2 := Lib.hid ((HR1.out.on HBB.out).but hbu hrd)
  have HB2 := Lib.hid (HB1.out.trans ((But.of HBB.out).trans hbu))
  have HY2 := Lib.hid ((HY1.out.on HBB.out).but hbu hgne)
  have HX2 := Lib.hid (HXB.out.but hbu hgne2)
  have HV2 := Lib.hid ((HV1.out.on (fun b hb => hb.2) HBB.out).but hbu (fun b hb => ⟨Nat.lt_of_lt_of_le hb.2 HZB.out, by have := hb.1; have := HGL.out; omega⟩))
  have HZ2 := Lib.hid (Nat.le_trans HZB.out hbu.size)
  have HM := fun ok => Lib.hid (must_any g ((b || !t.hasK VT.tdN 5) || !t.doc.hasK VT.uriN 3) ok w2 HR2.out.rd)
  have HO := Lib.hid (show t.uriOk = (t.hasK VT.tdN 5 && t.doc.hasK VT.uriN 3 && (decide (1 ≤ t.uri.size) && decide (t.uri.size ≤ 256))) from rfl)
  clear hv hrd hbu HC HBB HXB HR1 HY1 HV1 hU
  generalize hu : t.uri = uu at *
  have HU := Lib.hid hu
  clear hu
  by_cases h2 : ¬ 1 ≤ uu.size
  · have i0 : uu.size < 1 := by omega
    have d2 : decide (1 ≤ uu.size) = false := decide_eq_false h2
    have d3 : decide ((1 : Int) ≤ (uu.size : Int)) = false := by simp; omega
    clear h2
    go_wp2_with fail
    refine ((HM false).out).mono ?_
    rintro e w3 ⟨rfl, hr, hbu⟩
    have HR3 : Hid (RDB w3 g (b || !t.uriOk)) := Lib.hid (hr.eq (by rw [HO.out]; rw [d2]; cases b <;> cases t.hasK VT.tdN 5 <;> cases t.doc.hasK VT.uriN 3 <;> rfl))
    have HB3 := Lib.hid (HB2.out.trans hbu)
    have HX3 := Lib.hid (HX2.out.but hbu hgne2)
    have HY3 := Lib.hid (HY2.out.but hbu hgne)
    have HV3 := Lib.hid (HV2.out.but hbu (fun b hb => ⟨Nat.lt_of_lt_of_le hb.2 HZ2.out, by have := hb.1; have := HGL.out; omega⟩))
    have HZ3 := Lib.hid (Nat.le_trans HZ2.out hbu.size)
    have x0 := HX3.out.c0
    have x1 := HX3.out.c1
    have x2 := HX3.out.c2
    have x3 := HX3.out.c3
    have x4 := HX3.out.c4
    have y0 := HY3.out.c0
    have y1 := HY3.out.c1
    have y2 := HY3.out.c2
    have y3 := HY3.out.c3
    have y4 := HY3.out.c4
    have f0 := HY3.out.fr 0
    have f1 := HY3.out.fr 1
    have f2 := HY3.out.fr 2
    have f3 := HY3.out.fr 3
    have f4 := HY3.out.fr 4
    have hres := HY3.out.put (.int .i64 t.doc.kind) (.bool t.doc.is) (.string t.doc.text) (.slice B m cp) (.slice B' m' cp')
    have r0 := hres.c0
    have r1 := hres.c1
    have r2 := hres.c2
    have r3 := hres.c3
    have r4 := hres.c4
    clear hr hbu hres
    go_wp2
    exact bodyPost_ret (v := .tuple #[.agg #[.int .i64 t.doc.kind, .bool t.doc.is, .string t.doc.text, .slice B m cp, .slice B' m' cp'], .string uu]) (by simp [results, Tryz.results127, go_sem, r0, r1, r2, r3, r4]) rfl
      ⟨_, by rw [HU.out], (HV3.out.same (five_same w3 (w.heap.size + 1) _ _ _ _ _ (fun b hb => by have := hb.1; omega))).mono (fun b hb => ⟨by have := hb.1; omega, Nat.lt_of_lt_of_eq (Nat.lt_of_lt_of_le hb.2 HZ3.out) (five_size w3 (w.heap.size + 1) _ _ _ _ _).symm⟩),
        HR3.out.five (w.heap.size + 1) _ _ _ _ _ (fun e => hgne e.symm), HB3.out.five (w.heap.size + 1) _ _ _ _ _ (by omega)⟩
  replace h2 := Classical.not_not.1 h2
  have d2 : decide (1 ≤ uu.size) = true := decide_eq_true h2
  have d3 : decide ((1 : Int) ≤ (uu.size : Int)) = true := by simp; omega
  by_cases h3 : ¬ uu.size ≤ 256
  · have d4 : decide (uu.size ≤ 256) = false := decide_eq_false h3
    have d5 : decide ((uu.size : Int) ≤ 256) = false := by simp; omega
    clear h3
    go_wp2_with fail
    refine ((HM false).out).mono ?_
    rintro e w3 ⟨rfl, hr, hbu⟩
    have HR3 : Hid (RDB w3 g (b || !t.uriOk)) := Lib.hid (hr.eq (by rw [HO.out]; rw [d4]; simp))
    have HB3 := Lib.hid (HB2.out.trans hbu)
    have HX3 := Lib.hid (HX2.out.but hbu hgne2)
    have HY3 := Lib.hid (HY2.out.but hbu hgne)
    have HV3 := Lib.hid (HV2.out.but hbu (fun b hb => ⟨Nat.lt_of_lt_of_le hb.2 HZ2.out, by have := hb.1; have := HGL.out; omega⟩))
    have HZ3 := Lib.hid (Nat.le_trans HZ2.out hbu.size)
    have x0 := HX3.out.c0
    have x1 := HX3.out.c1
    have x2 := HX3.out.c2
    have x3 := HX3.out.c3
    have x4 := HX3.out.c4
    have y0 := HY3.out.c0
    have y1 := HY3.out.c1
    have y2 := HY3.out.c2
    have y3 := HY3.out.c3
    have y4 := HY3.out.c4
    have f0 := HY3.out.fr 0
    have f1 := HY3.out.fr 1
    have f2 := HY3.out.fr 2
    have f3 := HY3.out.fr 3
    have f4 := HY3.out.fr 4
    have hres := HY3.out.put (.int .i64 t.doc.kind) (.bool t.doc.is) (.string t.doc.text) (.slice B m cp) (.slice B' m' cp')
    have r0 := hres.c0
    have r1 := hres.c1
    have r2 := hres.c2
    have r3 := hres.c3
    have r4 := hres.c4
    clear hr hbu hres
    go_wp2
    exact bodyPost_ret (v := .tuple #[.agg #[.int .i64 t.doc.kind, .bool t.doc.is, .string t.doc.text, .slice B m cp, .slice B' m' cp'], .string uu]) (by simp [results, Tryz.results127, go_sem, r0, r1, r2, r3, r4]) rfl
      ⟨_, by rw [HU.out], (HV3.out.same (five_same w3 (w.heap.size + 1) _ _ _ _ _ (fun b hb => by have := hb.1; omega))).mono (fun b hb => ⟨by have := hb.1; omega, Nat.lt_of_lt_of_eq (Nat.lt_of_lt_of_le hb.2 HZ3.out) (five_size w3 (w.heap.size + 1) _ _ _ _ _).symm⟩),
        HR3.out.five (w.heap.size + 1) _ _ _ _ _ (fun e => hgne e.symm), HB3.out.five (w.heap.size + 1) _ _ _ _ _ (by omega)⟩
  replace h3 := Classical.not_not.1 h3
  have d4 : decide (uu.size ≤ 256) = true := decide_eq_true h3
  have d5 : decide ((uu.size : Int) ≤ 256) = true := by simp; omega
  go_wp2_with fail
  refine ((HM true).out).mono ?_
  rintro e w3 ⟨rfl, hr, hbu⟩
  have HR3 : Hid (RDB w3 g (b || !t.uriOk)) := Lib.hid (hr.eq (by rw [HO.out]; rw [d2, d4]; cases b <;> cases t.hasK VT.tdN 5 <;> cases t.doc.hasK VT.uriN 3 <;> rfl))
  have HB3 := Lib.hid (HB2.out.trans hbu)
  have HX3 := Lib.hid (HX2.out.but hbu hgne2)
  have HY3 := Lib.hid (HY2.out.but hbu hgne)
  have HV3 := Lib.hid (HV2.out.but hbu (fun b hb => ⟨Nat.lt_of_lt_of_le hb.2 HZ2.out, by have := hb.1; have := HGL.out; omega⟩))
  have HZ3 := Lib.hid (Nat.le_trans HZ2.out hbu.size)
  have x0 := HX3.out.c0
  have x1 := HX3.out.c1
  have x2 := HX3.out.c2
  have x3 := HX3.out.c3
  have x4 := HX3.out.c4
  have y0 := HY3.out.c0
  have y1 := HY3.out.c1
  have y2 := HY3.out.c2
  have y3 := HY3.out.c3
  have y4 := HY3.out.c4
  have f0 := HY3.out.fr 0
  have f1 := HY3.out.fr 1
  have f2 := HY3.out.fr 2
  have f3 := HY3.out.fr 3
  have f4 := HY3.out.fr 4
  have hres := HY3.out.put (.int .i64 t.doc.kind) (.bool t.doc.is) (.string t.doc.text) (.slice B m cp) (.slice B' m' cp')
  have r0 := hres.c0
  have r1 := hres.c1
  have r2 := hres.c2
  have r3 := hres.c3
  have r4 := hres.c4
  clear hr hbu hres
  go_wp2
  exact bodyPost_ret (v := .tuple #[.agg #[.int .i64 t.doc.kind, .bool t.doc.is, .string t.doc.text, .slice B m cp, .slice B' m' cp'], .string uu]) (by simp [results, Tryz.results127, go_sem, r0, r1, r2, r3, r4]) rfl
    ⟨_, by rw [HU.out], (HV3.out.same (five_same w3 (w.heap.size + 1) _ _ _ _ _ (fun b hb => by have := hb.1; omega))).mono (fun b hb => ⟨by have := hb.1; omega, Nat.lt_of_lt_of_eq (Nat.lt_of_lt_of_le hb.2 HZ3.out) (five_size w3 (w.heap.size + 1) _ _ _ _ _).symm⟩),
      HR3.out.five (w.heap.size + 1) _ _ _ _ _ (fun e => hgne e.symm), HB3.out.five (w.heap.size + 1) _ _ _ _ _ (by omega)⟩
end Go.Proofs.YtfploakafbnigaaGreatDoor
namespace Go.Proofs.YtfploakafbnigaaGreatDoor
open Go.RowKit Val
set_option linter.unusedVariables false
set_option linter.unusedSimpArgs false

/-- the reader that a call makes -/
theorem rd_new {w W : World} (hM : ML W) : Rd (W.alloc (.cells #[.bool false] 156)) W.heap.size false :=
  ⟨hM.on ((Below.refl _ _).alloc (Nat.le_refl _) _), Nat.ne_of_lt hM.lt, RDB.new _ _⟩

set_option maxRecDepth 100000 in
set_option maxHeartbeats 4000000 in
theorem Uri_any (t : VT) (w : World) (S : Nat → Prop) (v : Value) (h : VAL w S t v) (hS : ∀ b, S b → b < w.heap.size) (hM : ML w) (hbk : t.bulk ≤ 1000000000) :
    Calls Tryz.prog 62 #[v] w fun e w' => e = .returned (closesV t) ∧ Below w.heap.size w w' := by
  have HV := Lib.hid h
  have HS := Lib.hid hS
  have HM := Lib.hid hM
  have HK := Lib.hid hbk
  obtain ⟨A, n, cap, A', n', cap', rfl⟩ := h.parts
  clear h hS hM hbk
  go_enter Tryz.func62, Tryz.ntmps62
  go_wp2_with fail
  have HB0 := Lib.hid (al2_below w (.cells #[.int .i64 t.kind, .bool t.is, .string t.text, .slice A n cap, .slice A' n' cap'] 25) (.cells #[.bool false] 156))
  have HR0 : Hid (Rd ((w.alloc (.cells #[.int .i64 t.kind, .bool t.is, .string t.text, .slice A n cap, .slice A' n' cap'] 25)).alloc (.cells #[.bool false] 156)) (w.heap.size + 1) false) := Lib.hid (by
    have := rd_new (w := w) (W := w.alloc (.cells #[.int .i64 t.kind, .bool t.is, .string t.text, .slice A n cap, .slice A' n' cap'] 25)) (HM.out.on ((Below.refl _ _).alloc (Nat.le_refl _) _))
    rwa [show (w.alloc (.cells #[.int .i64 t.kind, .bool t.is, .string t.text, .slice A n cap, .slice A' n' cap'] 25)).heap.size = w.heap.size + 1 by simp] at this)
  refine (document_any t _ S _ (w.heap.size + 1) false (HV.out.on HS.out HB0.out) (fun b hb => Nat.lt_of_lt_of_le (HS.out b hb) HB0.out.size) HR0.out HK.out).mono ?_
  rintro e w1 ⟨v', rfl, hv, hrd, hbu⟩
  have HB1 := Lib.hid (hbu.below HB0.out (by omega) HB0.out.size)
  have HP : Hid (t.uriOk = true → closesV t = .tuple #[.string t.uri, .int .i64 0]) := Lib.hid (fun hq => by unfold closesV; rw [hq]; rfl)
  have HNO : Hid (t.uriOk = false → closesV t = .tuple #[.string ⟨#[]⟩, .int .i64 130]) := Lib.hid (fun hq => by unfold closesV; rw [hq]; rfl)
  have c0 := hrd.c
  clear hv hbu HR0 HB0 hrd
  rw [Bool.false_or] at c0
  cases hq : t.uriOk
  · rw [hq] at c0
    have HF := Lib.hid (HNO.out hq)
    clear hq HP HNO
    go_wp2
    go_ret2
    exact ⟨by rw [HF.out]; rfl, HB1.out⟩
  · rw [hq] at c0
    have HF := Lib.hid (HP.out hq)
    clear hq HP HNO
    go_wp2
    go_ret2
    exact ⟨by rw [HF.out]; rfl, HB1.out⟩

set_option maxRecDepth 100000 in
set_option maxHeartbeats 4000000 in
theorem Close_any (t : VT) (w : World) (S : Nat → Prop) (v : Value) (h : VAL w S t v) (hS : ∀ b, S b → b < w.heap.size) (hM : ML w) (hbk : t.bulk ≤ 1000000000) :
    Calls Tryz.prog 60 #[v] w fun e w' => e = .returned (closesV t) ∧ Below w.heap.size w w' := by
  have HG := Lib.hid (fun W (hb : Below w.heap.size w W) => Uri_any t W S v (h.on hS hb) (fun b hb' => Nat.lt_of_lt_of_le (hS b hb') hb.size) (hM.on hb) hbk)
  obtain ⟨A, n, cap, A', n', cap', rfl⟩ := h.parts
  clear h hS hM hbk
  unfold closesV at HG ⊢
  cases hq : t.uriOk
  all_goals
    rw [hq] at HG
    simp only [if_true, if_false, Bool.false_eq_true] at HG ⊢
    go_enter Tryz.func60, Tryz.ntmps60
    go_wp2_with fail
    refine (HG.out _ ((Below.refl _ _).alloc (Nat.le_refl _) _)).mono ?_
    rintro e w1 ⟨rfl, hb⟩
    have HB1 := Lib.hid (((Below.refl w.heap.size w).alloc (Nat.le_refl _) _).trans (hb.mono (by simp)))
    clear hb hq
    go_wp2
    go_ret2
    exact ⟨rfl, HB1.out⟩
set_option maxRecDepth 100000 in
set_option maxHeartbeats 4000000 in
theorem Open_any (t : VT) (w : World) (S : Nat → Prop) (v : Value) (h : VAL w S t v) (hS : ∀ b, S b → b < w.heap.size) (hM : ML w) (hbk : t.bulk ≤ 999999990) :
    Calls Tryz.prog 58 #[v] w fun e w' => e = .returned (opensV t) ∧ Below w.heap.size w w' := by
  have HV := Lib.hid h
  have HS := Lib.hid hS
  have HM := Lib.hid hM
  have HK := Lib.hid hbk
  have hdb : t.doc.bulk ≤ 1000000000 := by have := VT.getD_bulk t VT.tdN; unfold VT.doc; omega
  have HDB := Lib.hid hdb
  obtain ⟨A, n, cap, A', n', cap', rfl⟩ := h.parts
  clear h hS hM hbk hdb
  have fl := fieldText
  go_enter Tryz.func58, Tryz.ntmps58
  go_wp2_with fail
  have HB0 := Lib.hid (al2_below w (.cells #[.int .i64 t.kind, .bool t.is, .string t.text, .slice A n cap, .slice A' n' cap'] 25) (.cells #[.bool false] 156))
  have HR0 : Hid (Rd ((w.alloc (.cells #[.int .i64 t.kind, .bool t.is, .string t.text, .slice A n cap, .slice A' n' cap'] 25)).alloc (.cells #[.bool false] 156)) (w.heap.size + 1) false) := Lib.hid (by
    have := rd_new (w := w) (W := w.alloc (.cells #[.int .i64 t.kind, .bool t.is, .string t.text, .slice A n cap, .slice A' n' cap'] 25)) (HM.out.on ((Below.refl _ _).alloc (Nat.le_refl _) _))
    rwa [show (w.alloc (.cells #[.int .i64 t.kind, .bool t.is, .string t.text, .slice A n cap, .slice A' n' cap'] 25)).heap.size = w.heap.size + 1 by simp] at this)
  have HZ0 : Hid (w.heap.size + 2 ≤ ((w.alloc (.cells #[.int .i64 t.kind, .bool t.is, .string t.text, .slice A n cap, .slice A' n' cap'] 25)).alloc (.cells #[.bool false] 156)).heap.size) := Lib.hid (by simp)
  refine (document_any t _ S _ (w.heap.size + 1) false (HV.out.on HS.out HB0.out) (fun b hb => Nat.lt_of_lt_of_le (HS.out b hb) HB0.out.size) HR0.out (by have := HK.out; omega)).mono ?_
  rintro e w1 ⟨v', rfl, hv, hrd, hbu⟩
  obtain ⟨B, m, cp, B', m', cp', rfl⟩ := hv.parts
  have HB1 := Lib.hid (hbu.below HB0.out (by omega) HB0.out.size)
  have HR1 := Lib.hid (HR0.out.but hbu hrd)
  have HZ1 := Lib.hid (Nat.le_trans HZ0.out hbu.size)
  have HV1 := Lib.hid (hv.mono (S' := fun b => w.heap.size + 2 ≤ b ∧ b < w1.heap.size) (fun b hb => ⟨Nat.le_trans HZ0.out hb.1, hb.2⟩))
  clear hv hbu HR0 HB0 hrd HZ0
  have hA := (Below.refl w1.heap.size w1).alloc (Nat.le_refl _) (.cells #[.int .i64 t.doc.kind, .bool t.doc.is, .string t.doc.text, .slice B m cp, .slice B' m' cp'] 25)
  have HXA := Lib.hid (BX.new w1 (.int .i64 t.doc.kind) (.bool t.doc.is) (.string t.doc.text) (.slice B m cp) (.slice B' m' cp'))
  have HVA := Lib.hid (HV1.out.on (fun b hb => hb.2) hA)
  have HRA := Lib.hid (HR1.out.on hA)
  have HBA := Lib.hid (HB1.out.trans (hA.mono HB1.out.size))
  have HZA := Lib.hid hA.size
  clear hA
  go_wp2_with fail
  refine (whole_any t.doc VT.versionN 9007199254740991 _ _ _ (w.heap.size + 1) (false || !t.uriOk) HVA.out (fun b hb => Nat.lt_of_lt_of_le hb.2 HZA.out) HRA.out (by have := HDB.out; omega)).mono ?_
  rintro e w2 ⟨rfl, hrd, hbu⟩
  have hne : w1.heap.size ≠ w.heap.size + 1 := by have := HZ1.out; omega
  have HB2 := Lib.hid (hbu.below HBA.out (by omega) HBA.out.size)
  have HX2 := Lib.hid (HXA.out.but hbu hne)
  have HR2 := Lib.hid (HRA.out.but hbu hrd)
  have HV2 := Lib.hid (HVA.out.but hbu (fun b hb => ⟨Nat.lt_of_lt_of_le hb.2 HZA.out, by have := hb.1; omega⟩))
  have HZ2 := Lib.hid (Nat.le_trans HZA.out hbu.size)
  have x0 := HX2.out.c0
  have x1 := HX2.out.c1
  have x2 := HX2.out.c2
  have x3 := HX2.out.c3
  have x4 := HX2.out.c4
  clear hrd hbu HXA HVA HRA HBA HZA
  go_wp2_with fail
  refine (member_any t.doc VT.textN 3 _ _ _ (w.heap.size + 1) _ HV2.out (fun b hb => Nat.lt_of_lt_of_le hb.2 HZ2.out) HR2.out.rd (by have := HDB.out; omega)).mono ?_
  rintro e w3 ⟨v3, rfl, hv, hrd, hbu⟩
  obtain ⟨C, m2, cp2, C', m2', cp2', rfl⟩ := hv.parts
  have HB3 := Lib.hid (hbu.below HB2.out (by omega) HB2.out.size)
  have hO : t.openOk = (t.uriOk && t.doc.wholeOk VT.versionN 9007199254740991 && t.doc.hasK VT.textN 3) := rfl
  have hrd' : RDB w3 (w.heap.size + 1) (!t.openOk) := hrd.eq (by rw [hO]; cases t.uriOk <;> cases t.doc.wholeOk VT.versionN 9007199254740991 <;> cases t.doc.hasK VT.textN 3 <;> rfl)
  have HP : Hid (t.openOk = true → opensV t = .tuple #[.string t.uri, .int .i64 (t.doc.wholeN VT.versionN), .string (t.doc.textOf VT.textN), .int .i64 0]) := Lib.hid (fun hq => by unfold opensV; rw [hq]; rfl)
  have HNO : Hid (t.openOk = false → opensV t = .tuple #[.string ⟨#[]⟩, .int .i64 0, .string ⟨#[]⟩, .int .i64 130]) := Lib.hid (fun hq => by unfold opensV; rw [hq]; rfl)
  have c0 := hrd'.c
  clear hv hbu hrd hrd' hO x0 x1 x2 x3 x4
  cases hq : t.openOk
  · rw [hq] at c0
    have HF := Lib.hid (HNO.out hq)
    clear hq HP HNO
    go_wp2
    exact bodyPost_ret (v := .tuple #[.string ⟨#[]⟩, .int .i64 0, .string ⟨#[]⟩, .int .i64 130]) (by simp [results, Tryz.results58, go_sem]) rfl ⟨by rw [HF.out], HB3.out⟩
  · rw [hq] at c0
    have HF := Lib.hid (HP.out hq)
    clear hq HP HNO
    go_wp2
    exact bodyPost_ret (v := .tuple #[.string t.uri, .int .i64 (t.doc.wholeN VT.versionN), .string (t.doc.textOf VT.textN), .int .i64 0]) (by simp [results, Tryz.results58, go_sem]; rfl) rfl ⟨by rw [HF.out], HB3.out⟩
end Go.Proofs.YtfploakafbnigaaGreatDoor
namespace Go.Proofs.YtfploakafbnigaaGreatDoor
open Go.RowKit Val
set_option linter.unusedVariables false
set_option linter.unusedSimpArgs false

/-- which call is taken back, or none -/
def CancelP (t : VT) (w : World) (e : Ending) (w' : World) : Prop :=
  ∃ v', e = .returned (.tuple #[v', .int .i64 (if t.cancelOk then 0 else 130)]) ∧ VAL w' (New w w') (if t.cancelOk then t.getD VT.idN else .nul) v' ∧ Below w.heap.size w w'
theorem five_New {w w' : World} {g : Nat} {u0 u1 u2 u3 u4 : Value} {t : VT} {v : Value} {S : Nat → Prop} (h : VAL w' S t v) (h1 : ∀ b, S b → w.heap.size ≤ b ∧ b < w'.heap.size ∧ b ≠ g) : VAL (five w' g u0 u1 u2 u3 u4) (New w (five w' g u0 u1 u2 u3 u4)) t v :=
  (h.same (five_same w' g _ _ _ _ _ (fun b hb => (h1 b hb).2.2))).mono (fun b hb => ⟨(h1 b hb).1, Nat.lt_of_lt_of_eq (h1 b hb).2.1 (five_size w' g _ _ _ _ _).symm⟩)

set_option maxRecDepth 100000 in
set_option maxHeartbeats 4000000 in
theorem Cancel_any (t : VT) (w : World) (S : Nat → Prop) (v : Value) (h : VAL w S t v) (hS : ∀ b, S b → b < w.heap.size) (hM : ML w) (hbk : t.bulk ≤ 1000000000) :
    Calls Tryz.prog 66 #[v] w (CancelP t w) := by
  have HT := Lib.hid (getD_text t VT.idN hbk)
  have HG := Lib.hid (fun W (hb : Below w.heap.size w W) => Get_any t VT.idN W S v (h.on hS hb) (fun b hb' => Nat.lt_of_lt_of_le (hS b hb') hb.size) (by omega))
  have HM := Lib.hid hM
  obtain ⟨A, n, cap, A', n', cap', rfl⟩ := h.parts
  clear h hS hbk hM
  go_enter Tryz.func66, Tryz.ntmps66
  go_wp2_with fail
  refine (HG.out _ (al2_below _ _ _)).mono ?_
  rintro e w1 ⟨v', rfl, hv, hb⟩
  obtain ⟨B, m, cp, B', m', cp', rfl⟩ := hv.parts
  have HB1 := Lib.hid ((al2_below w (.cells #[.int .i64 t.kind, .bool t.is, .string t.text, .slice A n cap, .slice A' n' cap'] 25) (.cells #[.int .i64 0, .bool false, .string ⟨#[]⟩, .slice none 0 0, .slice none 0 0] 25)).trans (hb.mono (by simp; omega)))
  have HY1 : Hid (BX w1 (w.heap.size + 1) (.int .i64 0) (.bool false) (.string ⟨#[]⟩) (.slice none 0 0) (.slice none 0 0)) := Lib.hid (BX.on (al2_1 _ _ _) hb)
  have HZ1 : Hid (w.heap.size + 2 ≤ w1.heap.size) := Lib.hid (by have := hb.size; simp at this; omega)
  have HV1 : Hid (VAL w1 (fun b => w.heap.size + 2 ≤ b ∧ b < w1.heap.size) (t.getD VT.idN) _) := Lib.hid (hv.mono (fun b hb => ⟨by have := hb.1; simp at this; omega, hb.2⟩))
  clear hv hb HG
  have y0 := HY1.out.c0
  have y1 := HY1.out.c1
  have y2 := HY1.out.c2
  have y3 := HY1.out.c3
  have y4 := HY1.out.c4
  have f0 := HY1.out.fr 0
  have f1 := HY1.out.fr 1
  have f2 := HY1.out.fr 2
  have f3 := HY1.out.fr 3
  have f4 := HY1.out.fr 4
  have HYF : Hid (BX (five w1 (w.heap.size + 1) (.int .i64 (t.getD VT.idN).kind) (.bool (t.getD VT.idN).is) (.string (t.getD VT.idN).text) (.slice B m cp) (.slice B' m' cp')) (w.heap.size + 1) (.int .i64 (t.getD VT.idN).kind) (.bool (t.getD VT.idN).is) (.string (t.getD VT.idN).text) (.slice B m cp) (.slice B' m' cp')) := Lib.hid (HY1.out.put (.int .i64 (t.getD VT.idN).kind) (.bool (t.getD VT.idN).is) (.string (t.getD VT.idN).text) (.slice B m cp) (.slice B' m' cp'))
  have HBF := Lib.hid (five_below HB1.out (w.heap.size + 1) (.int .i64 (t.getD VT.idN).kind) (.bool (t.getD VT.idN).is) (.string (t.getD VT.idN).text) (.slice B m cp) (.slice B' m' cp') (by omega))
  have HVF := Lib.hid (HV1.out.same (five_same w1 (w.heap.size + 1) (.int .i64 (t.getD VT.idN).kind) (.bool (t.getD VT.idN).is) (.string (t.getD VT.idN).text) (.slice B m cp) (.slice B' m' cp') (fun b hb => by have := hb.1; omega)))
  have HSF := Lib.hid (five_size w1 (w.heap.size + 1) (.int .i64 (t.getD VT.idN).kind) (.bool (t.getD VT.idN).is) (.string (t.getD VT.idN).text) (.slice B m cp) (.slice B' m' cp'))
  obtain ⟨r, ro, hR⟩ : ∃ r ro, (t.getD VT.idN).numOf = (r, ro) := ⟨_, _, rfl⟩
  have HC := Lib.hid (show t.cancelOk = (t.has VT.idN && (decide ((t.getD VT.idN).kind = 3) || (decide ((t.getD VT.idN).kind = 2) && ro))) by unfold VT.cancelOk; rw [hR])
  have HD := Lib.hid (show ∀ X, X = t.cancelOk → (Value.int .i64 (if X then 0 else 130) = .int .i64 (if t.cancelOk then 0 else 130)) ∧ (if X then t.getD VT.idN else .nul) = (if t.cancelOk then t.getD VT.idN else .nul) from fun X h => by subst h; exact ⟨rfl, rfl⟩)
  have HI : Hid (Calls Tryz.prog 136 #[.string (t.getD VT.idN).text] (five w1 (w.heap.size + 1) (.int .i64 (t.getD VT.idN).kind) (.bool (t.getD VT.idN).is) (.string (t.getD VT.idN).text) (.slice B m cp) (.slice B' m' cp')) fun e w' => e = .returned (.tuple #[.int .i64 (t.getD VT.idN).numOf.1, .bool (t.getD VT.idN).numOf.2]) ∧ Below (five w1 (w.heap.size + 1) (.int .i64 (t.getD VT.idN).kind) (.bool (t.getD VT.idN).is) (.string (t.getD VT.idN).text) (.slice B m cp) (.slice B' m' cp')).heap.size (five w1 (w.heap.size + 1) (.int .i64 (t.getD VT.idN).kind) (.bool (t.getD VT.idN).is) (.string (t.getD VT.idN).text) (.slice B m cp) (.slice B' m' cp')) w') := Lib.hid (Int_any (t.getD VT.idN).text _ rfl _ (HM.out.on HBF.out) (by have := HT.out; omega))
  rw [hR] at HI
  have hq : (t.get VT.idN).isSome = t.has VT.idN := rfl
  rw [hq]
  clear hR hq
  go_wp2_with fail
  change Calls _ _ _ (five w1 (w.heap.size + 1) (.int .i64 (t.getD VT.idN).kind) (.bool (t.getD VT.idN).is) (.string (t.getD VT.idN).text) (.slice B m cp) (.slice B' m' cp')) _
  generalize (five w1 (w.heap.size + 1) (.int .i64 (t.getD VT.idN).kind) (.bool (t.getD VT.idN).is) (.string (t.getD VT.idN).text) (.slice B m cp) (.slice B' m' cp')) = wf at *
  clear y0 y1 y2 y3 y4 f0 f1 f2 f3 f4
  refine (HI.out).mono ?_
  rintro e w2 ⟨rfl, hb⟩
  have HY2 := Lib.hid (HYF.out.on hb)
  have HB2 := Lib.hid (HBF.out.trans (hb.mono HBF.out.size))
  have HV2 := Lib.hid (HVF.out.on (fun b hb => by rw [HSF.out]; exact hb.2) hb)
  have HZ2 : Hid (w1.heap.size ≤ w2.heap.size) := Lib.hid (by have := hb.size; rw [HSF.out] at this; exact this)
  have y0 := HY2.out.c0
  have y1 := HY2.out.c1
  have y2 := HY2.out.c2
  have y3 := HY2.out.c3
  have y4 := HY2.out.c4
  have f0 := HY2.out.fr 0
  have f1 := HY2.out.fr 1
  have f2 := HY2.out.fr 2
  have f3 := HY2.out.fr 3
  have f4 := HY2.out.fr 4
  have hres0 := HY2.out.put (.int .i64 0) (.bool false) (.string ⟨#[]⟩) (.slice none 0 0) (.slice none 0 0)
  have z0 := hres0.c0
  have z1 := hres0.c1
  have z2 := hres0.c2
  have z3 := hres0.c3
  have z4 := hres0.c4
  have hres := HY2.out.put (.int .i64 (t.getD VT.idN).kind) (.bool (t.getD VT.idN).is) (.string (t.getD VT.idN).text) (.slice B m cp) (.slice B' m' cp')
  have r0 := hres.c0
  have r1 := hres.c1
  have r2 := hres.c2
  have r3 := hres.c3
  have r4 := hres.c4
  clear hb hres hres0
  generalize hk : (t.getD VT.idN).kind = kk at *
  generalize hh : t.has VT.idN = q at *
  clear hk hh
  cases q
  · have HF : Hid (false = t.cancelOk) := Lib.hid (by rw [HC.out]; rfl)
    go_wp2
    exact bodyPost_ret (v := .tuple #[.agg #[.int .i64 0, .bool false, .string ⟨#[]⟩, .slice none 0 0, .slice none 0 0], .int .i64 130]) (by simp [results, Tryz.results66, go_sem, z0, z1, z2, z3, z4]) rfl
      ⟨_, by rw [← (HD.out false HF.out).1]; rfl, by rw [← (HD.out false HF.out).2]; exact nul_VAL _ _, five_below HB2.out (w.heap.size + 1) _ _ _ _ _ (by omega)⟩
  by_cases h3 : kk = 3
  · obtain ⟨k1, k2⟩ := int_eq h3
    have HK3 := Lib.hid h3
    clear h3
    have HF : Hid (true = t.cancelOk) := Lib.hid (by rw [HC.out]; rw [HK3.out]; rfl)
    go_wp2
    exact bodyPost_ret (v := .tuple #[.agg #[.int .i64 kk, .bool (t.getD VT.idN).is, .string (t.getD VT.idN).text, .slice B m cp, .slice B' m' cp'], .int .i64 0]) (by simp [results, Tryz.results66, go_sem, r0, r1, r2, r3, r4]) rfl
      ⟨_, by rw [← (HD.out true HF.out).1]; rfl, by rw [← (HD.out true HF.out).2]; exact five_New (w := w) HV2.out (fun b hb => by have := hb.1; have := hb.2; have := HZ2.out; omega), five_below HB2.out (w.heap.size + 1) _ _ _ _ _ (by omega)⟩
  obtain ⟨k1, k2⟩ := int_ne h3
  have HK3 := Lib.hid (decide_eq_false h3)
  clear h3
  by_cases h2 : ¬ kk = 2
  · obtain ⟨k3, k4⟩ := int_ne h2
    have HK2 := Lib.hid (decide_eq_false h2)
    clear h2
    have HF : Hid (false = t.cancelOk) := Lib.hid (by rw [HC.out]; rw [HK3.out, HK2.out]; rfl)
    go_wp2
    exact bodyPost_ret (v := .tuple #[.agg #[.int .i64 0, .bool false, .string ⟨#[]⟩, .slice none 0 0, .slice none 0 0], .int .i64 130]) (by simp [results, Tryz.results66, go_sem, z0, z1, z2, z3, z4]) rfl
      ⟨_, by rw [← (HD.out false HF.out).1]; rfl, by rw [← (HD.out false HF.out).2]; exact nul_VAL _ _, five_below HB2.out (w.heap.size + 1) _ _ _ _ _ (by omega)⟩
  replace h2 := Classical.not_not.1 h2
  obtain ⟨k3, k4⟩ := int_eq h2
  have HK2 := Lib.hid (decide_eq_true h2)
  clear h2
  cases ro
  · have HF : Hid (false = t.cancelOk) := Lib.hid (by rw [HC.out]; rw [HK3.out, HK2.out]; rfl)
    go_wp2
    exact bodyPost_ret (v := .tuple #[.agg #[.int .i64 0, .bool false, .string ⟨#[]⟩, .slice none 0 0, .slice none 0 0], .int .i64 130]) (by simp [results, Tryz.results66, go_sem, z0, z1, z2, z3, z4]) rfl
      ⟨_, by rw [← (HD.out false HF.out).1]; rfl, by rw [← (HD.out false HF.out).2]; exact nul_VAL _ _, five_below HB2.out (w.heap.size + 1) _ _ _ _ _ (by omega)⟩
  · have HF : Hid (true = t.cancelOk) := Lib.hid (by rw [HC.out]; rw [HK3.out, HK2.out]; rfl)
    go_wp2
    exact bodyPost_ret (v := .tuple #[.agg #[.int .i64 kk, .bool (t.getD VT.idN).is, .string (t.getD VT.idN).text, .slice B m cp, .slice B' m' cp'], .int .i64 0]) (by simp [results, Tryz.results66, go_sem, r0, r1, r2, r3, r4]) rfl
      ⟨_, by rw [← (HD.out true HF.out).1]; rfl, by rw [← (HD.out true HF.out).2]; exact five_New (w := w) HV2.out (fun b hb => by have := hb.1; have := hb.2; have := HZ2.out; omega), five_below HB2.out (w.heap.size + 1) _ _ _ _ _ (by omega)⟩

set_option maxRecDepth 100000 in
set_option maxHeartbeats 4000000 in
theorem refCancel_any (t : VT) (w : World) (S : Nat → Prop) (v : Value) (h : VAL w S t v) (hS : ∀ b, S b → b < w.heap.size) (hbk : t.bulk ≤ 1000000000) :
    Calls Tryz.prog 67 #[v] w (CancelP t w) := by
  have HT := Lib.hid (getD_text t VT.idN hbk)
  have HG := Lib.hid (fun W (hb : Below w.heap.size w W) => refGet_any t VT.idN W S v (h.on hS hb) (fun b hb' => Nat.lt_of_lt_of_le (hS b hb') hb.size) (by omega))
  obtain ⟨A, n, cap, A', n', cap', rfl⟩ := h.parts
  clear h hS hbk
  go_enter Tryz.func67, Tryz.ntmps67
  go_wp2_with fail
  refine (HG.out _ (al2_below _ _ _)).mono ?_
  rintro e w1 ⟨v', rfl, hv, hb⟩
  obtain ⟨B, m, cp, B', m', cp', rfl⟩ := hv.parts
  have HB1 := Lib.hid ((al2_below w (.cells #[.int .i64 t.kind, .bool t.is, .string t.text, .slice A n cap, .slice A' n' cap'] 25) (.cells #[.int .i64 0, .bool false, .string ⟨#[]⟩, .slice none 0 0, .slice none 0 0] 25)).trans (hb.mono (by simp; omega)))
  have HY1 : Hid (BX w1 (w.heap.size + 1) (.int .i64 0) (.bool false) (.string ⟨#[]⟩) (.slice none 0 0) (.slice none 0 0)) := Lib.hid (BX.on (al2_1 _ _ _) hb)
  have HZ1 : Hid (w.heap.size + 2 ≤ w1.heap.size) := Lib.hid (by have := hb.size; simp at this; omega)
  have HV1 : Hid (VAL w1 (fun b => w.heap.size + 2 ≤ b ∧ b < w1.heap.size) (t.getD VT.idN) _) := Lib.hid (hv.mono (fun b hb => ⟨by have := hb.1; simp at this; omega, hb.2⟩))
  clear hv hb HG
  obtain ⟨r, ro, hR⟩ : ∃ r ro, (t.getD VT.idN).numOf = (r, ro) := ⟨_, _, rfl⟩
  have HC := Lib.hid (show t.cancelOk = (t.has VT.idN && (decide ((t.getD VT.idN).kind = 3) || (decide ((t.getD VT.idN).kind = 2) && ro))) by unfold VT.cancelOk; rw [hR])
  have HD := Lib.hid (show ∀ X, X = t.cancelOk → (Value.int .i64 (if X then 0 else 130) = .int .i64 (if t.cancelOk then 0 else 130)) ∧ (if X then t.getD VT.idN else .nul) = (if t.cancelOk then t.getD VT.idN else .nul) from fun X h => by subst h; exact ⟨rfl, rfl⟩)
  have HI : Hid (∀ W, Calls Tryz.prog 137 #[.string (t.getD VT.idN).text] W fun e w' => e = .returned (.tuple #[.int .i64 (t.getD VT.idN).numOf.1, .bool (t.getD VT.idN).numOf.2]) ∧ Below W.heap.size W w') := Lib.hid (fun W => refInt_any (t.getD VT.idN).text _ rfl W (by have := HT.out; omega))
  rw [hR] at HI
  have hq : (t.get VT.idN).isSome = t.has VT.idN := rfl
  rw [hq]
  clear hR hq
  have hA := (Below.refl w1.heap.size w1).alloc (Nat.le_refl _) (.cells #[.int .i64 (t.getD VT.idN).kind, .bool (t.getD VT.idN).is, .string (t.getD VT.idN).text, .slice B m cp, .slice B' m' cp'] 25)
  have HXA := Lib.hid (BX.new w1 (.int .i64 (t.getD VT.idN).kind) (.bool (t.getD VT.idN).is) (.string (t.getD VT.idN).text) (.slice B m cp) (.slice B' m' cp'))
  have HA := Lib.hid hA
  clear hA
  go_wp2_with fail
  refine (HI.out _).mono ?_
  rintro e w2 ⟨rfl, hb⟩
  have hb2 := HA.out.trans (hb.mono HA.out.size)
  have HX2 := Lib.hid (HXA.out.on hb)
  have HY2 := Lib.hid (HY1.out.on hb2)
  have HB2 := Lib.hid (HB1.out.trans (hb2.mono HB1.out.size))
  have HV2 := Lib.hid (HV1.out.on (fun b hb => hb.2) hb2)
  have HZ2 := Lib.hid hb2.size
  have x0 := HX2.out.c0
  have x1 := HX2.out.c1
  have x2 := HX2.out.c2
  have x3 := HX2.out.c3
  have x4 := HX2.out.c4
  clear hb2
  have y0 := HY2.out.c0
  have y1 := HY2.out.c1
  have y2 := HY2.out.c2
  have y3 := HY2.out.c3
  have y4 := HY2.out.c4
  have f0 := HY2.out.fr 0
  have f1 := HY2.out.fr 1
  have f2 := HY2.out.fr 2
  have f3 := HY2.out.fr 3
  have f4 := HY2.out.fr 4
  have hres0 := HY2.out.put (.int .i64 0) (.bool false) (.string ⟨#[]⟩) (.slice none 0 0) (.slice none 0 0)
  have z0 := hres0.c0
  have z1 := hres0.c1
  have z2 := hres0.c2
  have z3 := hres0.c3
  have z4 := hres0.c4
  have hres := HY2.out.put (.int .i64 (t.getD VT.idN).kind) (.bool (t.getD VT.idN).is) (.string (t.getD VT.idN).text) (.slice B m cp) (.slice B' m' cp')
  have r0 := hres.c0
  have r1 := hres.c1
  have r2 := hres.c2
  have r3 := hres.c3
  have r4 := hres.c4
  clear hb hres hres0
  generalize hk : (t.getD VT.idN).kind = kk at *
  generalize hh : t.has VT.idN = q at *
  clear hk hh
  cases q
  · have HF : Hid (false = t.cancelOk) := Lib.hid (by rw [HC.out]; rfl)
    go_wp2
    exact bodyPost_ret (v := .tuple #[.agg #[.int .i64 0, .bool false, .string ⟨#[]⟩, .slice none 0 0, .slice none 0 0], .int .i64 130]) (by simp [results, Tryz.results67, go_sem, z0, z1, z2, z3, z4]) rfl
      ⟨_, by rw [← (HD.out false HF.out).1]; rfl, by rw [← (HD.out false HF.out).2]; exact nul_VAL _ _, five_below HB2.out (w.heap.size + 1) _ _ _ _ _ (by omega)⟩
  by_cases h3 : kk = 3
  · obtain ⟨k1, k2⟩ := int_eq h3
    have HK3 := Lib.hid h3
    clear h3
    have HF : Hid (true = t.cancelOk) := Lib.hid (by rw [HC.out]; rw [HK3.out]; rfl)
    go_wp2
    exact bodyPost_ret (v := .tuple #[.agg #[.int .i64 kk, .bool (t.getD VT.idN).is, .string (t.getD VT.idN).text, .slice B m cp, .slice B' m' cp'], .int .i64 0]) (by simp [results, Tryz.results67, go_sem, r0, r1, r2, r3, r4]) rfl
      ⟨_, by rw [← (HD.out true HF.out).1]; rfl, by rw [← (HD.out true HF.out).2]; exact five_New (w := w) HV2.out (fun b hb => by have := hb.1; have := hb.2; have := HZ2.out; omega), five_below HB2.out (w.heap.size + 1) _ _ _ _ _ (by omega)⟩
  obtain ⟨k1, k2⟩ := int_ne h3
  have HK3 := Lib.hid (decide_eq_false h3)
  clear h3
  by_cases h2 : ¬ kk = 2
  · obtain ⟨k3, k4⟩ := int_ne h2
    have HK2 := Lib.hid (decide_eq_false h2)
    clear h2
    have HF : Hid (false = t.cancelOk) := Lib.hid (by rw [HC.out]; rw [HK3.out, HK2.out]; rfl)
    go_wp2
    exact bodyPost_ret (v := .tuple #[.agg #[.int .i64 0, .bool false, .string ⟨#[]⟩, .slice none 0 0, .slice none 0 0], .int .i64 130]) (by simp [results, Tryz.results67, go_sem, z0, z1, z2, z3, z4]) rfl
      ⟨_, by rw [← (HD.out false HF.out).1]; rfl, by rw [← (HD.out false HF.out).2]; exact nul_VAL _ _, five_below HB2.out (w.heap.size + 1) _ _ _ _ _ (by omega)⟩
  replace h2 := Classical.not_not.1 h2
  obtain ⟨k3, k4⟩ := int_eq h2
  have HK2 := Lib.hid (decide_eq_true h2)
  clear h2
  cases ro
  · have HF : Hid (false = t.cancelOk) := Lib.hid (by rw [HC.out]; rw [HK3.out, HK2.out]; rfl)
    go_wp2
    exact bodyPost_ret (v := .tuple #[.agg #[.int .i64 0, .bool false, .string ⟨#[]⟩, .slice none 0 0, .slice none 0 0], .int .i64 130]) (by simp [results, Tryz.results67, go_sem, z0, z1, z2, z3, z4]) rfl
      ⟨_, by rw [← (HD.out false HF.out).1]; rfl, by rw [← (HD.out false HF.out).2]; exact nul_VAL _ _, five_below HB2.out (w.heap.size + 1) _ _ _ _ _ (by omega)⟩
  · have HF : Hid (true = t.cancelOk) := Lib.hid (by rw [HC.out]; rw [HK3.out, HK2.out]; rfl)
    go_wp2
    exact bodyPost_ret (v := .tuple #[.agg #[.int .i64 kk, .bool (t.getD VT.idN).is, .string (t.getD VT.idN).text, .slice B m cp, .slice B' m' cp'], .int .i64 0]) (by simp [results, Tryz.results67, go_sem, r0, r1, r2, r3, r4]) rfl
      ⟨_, by rw [← (HD.out true HF.out).1]; rfl, by rw [← (HD.out true HF.out).2]; exact five_New (w := w) HV2.out (fun b hb => by have := hb.1; have := hb.2; have := HZ2.out; omega), five_below HB2.out (w.heap.size + 1) _ _ _ _ _ (by omega)⟩
end Go.Proofs.YtfploakafbnigaaGreatDoor
namespace Go.Proofs.YtfploakafbnigaaGreatDoor
open Go.RowKit Val
set_option linter.unusedVariables false
set_option linter.unusedSimpArgs false

/-- block g is just these cells -/
def BK (w : World) (g : Nat) (T : TypeId) (cs : Array Value) : Prop := w.heap[g]? = some (.cells cs T (0, 0))
theorem BK.c {w : World} {g : Nat} {T : TypeId} {cs : Array Value} (h : BK w g T cs) (i : Nat) {v : Value} (e : cs[i]? = some v) : w.cell? ⟨g, i, none⟩ = some v := by rw [cell_of_row w g i _ _ _ h]; exact e
theorem BK.fr {w : World} {g : Nat} {T : TypeId} {cs : Array Value} (h : BK w g T cs) (i : Nat) : w.frozen? ⟨g, i, none⟩ = false := by unfold BK at h; simp [World.frozen?, h]
theorem BK.lt {w : World} {g : Nat} {T : TypeId} {cs : Array Value} (h : BK w g T cs) : g < w.heap.size := (Array.getElem?_eq_some_iff.1 h).1
theorem BK.on {w w' : World} {g : Nat} {T : TypeId} {cs : Array Value} (h : BK w g T cs) (hb : Below w.heap.size w w') : BK w' g T cs := (hb.block g h.lt).trans h
theorem BK.but {w w' : World} {g g' : Nat} {T : TypeId} {cs : Array Value} (h : BK w g T cs) (hb : But g' w w') (hg : g ≠ g') : BK w' g T cs := (hb.block g h.lt hg).trans h
theorem BK.new (w : World) (T : TypeId) (cs : Array Value) : BK (w.alloc (.cells cs T)) w.heap.size T cs := heap_alloc_new w _
theorem BK.set {w : World} {g : Nat} {T : TypeId} {cs cs' : Array Value} (h : BK w g T cs) (i : Nat) (u : Value) (e : cs.setIfInBounds i u = cs') : BK (w.setCell ⟨g, i, none⟩ u) g T cs' := by
  subst e
  unfold BK at h ⊢
  simp [World.setCell, Array.getElem?_modify, h]
theorem BK.far {w : World} {g : Nat} {T : TypeId} {cs : Array Value} (h : BK w g T cs) {p : Addr} (u : Value) (hp : g ≠ p.block) : BK (w.setCell p u) g T cs := (Below.heap_setCell w p u g hp).trans h
theorem BX.bk {w : World} {g : Nat} {v0 v1 v2 v3 v4 : Value} (h : BX w g v0 v1 v2 v3 v4) : BK w g 25 #[v0, v1, v2, v3, v4] := h
/-- stores into block g, from place i on -/
def setAll (g : Nat) : World → Nat → List Value → World
  | w, _, [] => w
  | w, i, u :: r => setAll g (w.setCell ⟨g, i, none⟩ u) (i + 1) r
theorem setAll_same {S : Nat → Prop} (g : Nat) (us : List Value) (hS : ∀ b, S b → b ≠ g) : ∀ (w : World) (i : Nat), Same S w (setAll g w i us) := by
  induction us with
  | nil => intro w i b _; rfl
  | cons u r ih => intro w i; exact (set_same (p := ⟨g, i, none⟩) u hS).trans (ih _ _)
theorem setAll_below {B : Nat} {w0 : World} (g : Nat) (hg : B ≤ g) (us : List Value) : ∀ (w : World) (i : Nat), Below B w0 w → Below B w0 (setAll g w i us) := by
  induction us with
  | nil => intro w i h; exact h
  | cons u r ih => intro w i h; exact ih _ _ (h.setCell (p := ⟨g, i, none⟩) hg u)
theorem setAll_but {g0 : Nat} {w0 : World} (g : Nat) (hg : w0.heap.size ≤ g) (us : List Value) : ∀ (w : World) (i : Nat), But g0 w0 w → But g0 w0 (setAll g w i us) := by
  induction us with
  | nil => intro w i h; exact h
  | cons u r ih => intro w i h; exact ih _ _ (h.far ⟨g, i, none⟩ u hg)
theorem setAll_size (g : Nat) (us : List Value) : ∀ (w : World) (i : Nat), (setAll g w i us).heap.size = w.heap.size := by
  induction us with
  | nil => intro w i; rfl
  | cons u r ih => intro w i; show (setAll g _ _ r).heap.size = _; rw [ih]; simp [World.setCell]
theorem setAll_bk {g : Nat} {T : TypeId} : ∀ (us pre : List Value) (w : World) (cs : Array Value), BK w g T cs → cs.toList.take pre.length = pre → cs.size = pre.length + us.length → BK (setAll g w pre.length us) g T (pre ++ us).toArray := by
  intro us
  induction us with
  | nil =>
    intro pre w cs h hp hs
    have : cs.toList = pre := by rw [← hp, List.take_of_length_le (by simp; simp at hs; omega)]
    show BK w g T (pre ++ []).toArray
    rw [List.append_nil, ← this]
    simpa using h
  | cons u r ih =>
    intro pre w cs h hp hs
    have h1 := ih (pre ++ [u]) (w.setCell ⟨g, pre.length, none⟩ u) _ (h.set pre.length u rfl) (by
      simp only [Array.toList_setIfInBounds, List.length_append, List.length_singleton]
      rw [List.take_add_one, List.take_set_of_le (Nat.le_refl _), hp]
      simp at hs
      simp [List.getElem?_set]
      omega) (by simp at hs ⊢; omega)
    simp only [List.length_append, List.length_singleton, List.append_assoc, List.singleton_append] at h1
    exact h1
/-- all of a block is written anew -/
theorem BK.all {w : World} {g : Nat} {T : TypeId} {cs : Array Value} (h : BK w g T cs) (us : List Value) (hs : cs.size = us.length) : BK (setAll g w 0 us) g T us.toArray := by
  have := setAll_bk us [] w cs h rfl (by simpa using hs)
  simpa using this
theorem BK.two {w : World} {g : Nat} {T : TypeId} {cs : Array Value} (h : BK w g T cs) (hs : cs.size = 2) (u0 u1 : Value) :
    ((w.setCell ⟨g, 0, none⟩ u0).setCell ⟨g, 1, none⟩ u1).cell? ⟨g, 0, none⟩ = some u0 ∧ ((w.setCell ⟨g, 0, none⟩ u0).setCell ⟨g, 1, none⟩ u1).cell? ⟨g, 1, none⟩ = some u1 :=
  ⟨(h.all [u0, u1] hs).c 0 rfl, (h.all [u0, u1] hs).c 1 rfl⟩
theorem BK.six {w : World} {g : Nat} {T : TypeId} {cs : Array Value} (h : BK w g T cs) (hs : cs.size = 6) (u0 u1 u2 u3 u4 u5 : Value) :
    ((((((w.setCell ⟨g, 0, none⟩ u0).setCell ⟨g, 1, none⟩ u1).setCell ⟨g, 2, none⟩ u2).setCell ⟨g, 3, none⟩ u3).setCell ⟨g, 4, none⟩ u4).setCell ⟨g, 5, none⟩ u5).cell? ⟨g, 0, none⟩ = some u0 ∧ ((((((w.setCell ⟨g, 0, none⟩ u0).setCell ⟨g, 1, none⟩ u1).setCell ⟨g, 2, none⟩ u2).setCell ⟨g, 3, none⟩ u3).setCell ⟨g, 4, none⟩ u4).setCell ⟨g, 5, none⟩ u5).cell? ⟨g, 1, none⟩ = some u1 ∧ ((((((w.setCell ⟨g, 0, none⟩ u0).setCell ⟨g, 1, none⟩ u1).setCell ⟨g, 2, none⟩ u2).setCell ⟨g, 3, none⟩ u3).setCell ⟨g, 4, none⟩ u4).setCell ⟨g, 5, none⟩ u5).cell? ⟨g, 2, none⟩ = some u2 ∧ ((((((w.setCell ⟨g, 0, none⟩ u0).setCell ⟨g, 1, none⟩ u1).setCell ⟨g, 2, none⟩ u2).setCell ⟨g, 3, none⟩ u3).setCell ⟨g, 4, none⟩ u4).setCell ⟨g, 5, none⟩ u5).cell? ⟨g, 3, none⟩ = some u3 ∧ ((((((w.setCell ⟨g, 0, none⟩ u0).setCell ⟨g, 1, none⟩ u1).setCell ⟨g, 2, none⟩ u2).setCell ⟨g, 3, none⟩ u3).setCell ⟨g, 4, none⟩ u4).setCell ⟨g, 5, none⟩ u5).cell? ⟨g, 4, none⟩ = some u4 ∧ ((((((w.setCell ⟨g, 0, none⟩ u0).setCell ⟨g, 1, none⟩ u1).setCell ⟨g, 2, none⟩ u2).setCell ⟨g, 3, none⟩ u3).setCell ⟨g, 4, none⟩ u4).setCell ⟨g, 5, none⟩ u5).cell? ⟨g, 5, none⟩ = some u5 :=
  ⟨(h.all [u0, u1, u2, u3, u4, u5] hs).c 0 rfl, (h.all [u0, u1, u2, u3, u4, u5] hs).c 1 rfl, (h.all [u0, u1, u2, u3, u4, u5] hs).c 2 rfl, (h.all [u0, u1, u2, u3, u4, u5] hs).c 3 rfl, (h.all [u0, u1, u2, u3, u4, u5] hs).c 4 rfl, (h.all [u0, u1, u2, u3, u4, u5] hs).c 5 rfl⟩
end Go.Proofs.YtfploakafbnigaaGreatDoor
