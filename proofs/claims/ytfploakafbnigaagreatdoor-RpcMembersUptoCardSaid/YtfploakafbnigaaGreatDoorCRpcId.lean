/-
  Layer 12, the walks: isId, Same, isNull, isList.
-/
import Derived.Test.YtfploakafbnigaaGreatDoorCRpcKit
namespace Go.Proofs.YtfploakafbnigaaGreatDoor
open Go.RowKit Val Num
set_option linter.unusedVariables false
set_option linter.unusedSimpArgs false
set_option maxRecDepth 100000 in
set_option maxHeartbeats 4000000 in
theorem isId_any (t : VT) (z : Zone) (v : Value) (w : World) (h : VLV z t w v) (hM : ML w) (hbk : t.bulk ≤ 1073741824) : Calls Tryz.prog 102 #[v] w (Made (.bool t.isId) w) := by
  obtain ⟨A, n, cap, A', n', cap', rfl⟩ := h.parts
  have H := Lib.hid h
  have HM := Lib.hid hM
  have HI : Hid (t.isId = (decide (t.check = 0) && (decide (t.kind = 3) || (decide (t.kind = 2) && t.numOf.2)))) := Lib.hid rfl
  have HT := Lib.hid (Nat.le_trans (VT.text_bulk t) hbk)
  have HN : Hid (∀ W, ML W → Calls Tryz.prog 136 #[.string t.text] W fun e w' => e = .returned (.tuple #[.int .i64 t.numOf.1, .bool t.numOf.2]) ∧ Below W.heap.size W w') := Lib.hid (fun W hW => Int_any t.text _ rfl W hW (by have := HT.out; have : t.text.data.toList.length = t.text.size := Array.length_toList; omega))
  have HC := Lib.hid (fun W (hb : Below w.heap.size w W) => pCheck_any t W _ _ (VLV.up h hb) (z.lt W) hbk)
  clear h hM hbk
  generalize t.isId = R at *
  generalize t.kind = k at *
  generalize t.is = i at *
  generalize t.text = x at *
  generalize t.numOf.1 = nv at *
  generalize t.numOf.2 = nb at *
  generalize t.check = c at *
  go_enter Tryz.func102, Tryz.ntmps102
  go_wp2_with fail
  refine at1 (fun W hX hB hz => ?_)
  refine (HC.out W hB).mono ?_
  rintro e w2 ⟨rfl, hb⟩
  have HX := Lib.hid (hX.on hb)
  have HB := Lib.hid (hB.trans (hb.mono hB.size))
  clear hX hb hB hz
  by_cases q : c = 0
  · subst q
    have hx := HX.out
    have y0 := hx.c 0 rfl
    have y1 := hx.c 1 rfl
    have y2 := hx.c 2 rfl
    clear hx
    go_wp2_with fail
    refine (HN.out w2 (HM.out.on HB.out)).mono ?_
    rintro e w3 ⟨rfl, hb⟩
    have hx := HX.out.on hb
    have HB2 := Lib.hid (HB.out.trans (hb.mono HB.out.size))
    clear y0 y1 y2 hb
    have y0 := hx.c 0 rfl
    clear hx
    by_cases k3 : k = 3
    · subst k3
      go_wp2
      go_ret
      exact ⟨ret_bool' (by rw [HI.out]; simp), HB2.out⟩
    · have e3 := beq_f k3
      by_cases k2 : k = 2
      · subst k2
        go_wp2
        go_ret
        exact ⟨ret_bool' (by rw [HI.out]; simp), HB2.out⟩
      · have e2 := beq_f k2
        have HR : Hid (R = false) := Lib.hid (by rw [HI.out]; simp [k3, k2])
        clear k3 k2
        go_wp2
        go_ret
        exact ⟨ret_bool' HR.out.symm, HB2.out⟩
  · have e1 := bne_t q
    have HR : Hid (R = false) := Lib.hid (by rw [HI.out, decide_eq_false q]; rfl)
    clear q
    go_wp2
    go_ret
    exact ⟨ret_bool' HR.out.symm, HB.out⟩
set_option maxRecDepth 100000 in
set_option maxHeartbeats 4000000 in
theorem isNull_any (t : VT) (z : Zone) (v : Value) (w : World) (h : VLV z t w v) (hbk : t.bulk ≤ 1073741824) : Calls Tryz.prog 150 #[v] w (Made (.bool t.isNull) w) := by
  obtain ⟨A, n, cap, A', n', cap', rfl⟩ := h.parts
  have HC := Lib.hid (fun W (hb : Below w.heap.size w W) => pEqual_any t .nul W _ (fun _ => False) _ _ (VLV.up h hb) (nul_VAL W _) (z.lt W) (fun _ h => h.elim) hbk (by decide))
  have HI : Hid (t.isNull = t.eqv .nul) := Lib.hid rfl
  generalize t.eqv .nul = q at *
  clear h hbk
  go_enter Tryz.func150, Tryz.ntmps150
  go_wp2_with fail
  refine at1 (fun W hX hB hz => ?_)
  refine (HC.out W hB).mono ?_
  rintro e w2 ⟨rfl, hb⟩
  have HB := Lib.hid (hB.trans (hb.mono hB.size))
  clear hX hb hB hz
  go_wp2
  go_ret
  exact ⟨ret_bool' HI.out.symm, HB.out⟩
set_option maxRecDepth 100000 in
set_option maxHeartbeats 4000000 in
theorem isList_any (t : VT) (z : Zone) (v : Value) (w : World) (h : VLV z t w v) : Calls Tryz.prog 149 #[v] w (Made (.bool t.isList) w) := by
  obtain ⟨A, n, cap, A', n', cap', rfl⟩ := h.parts
  have HI : Hid (t.isList = (decide (t.kind = 4) || decide (t.kind = 5))) := Lib.hid rfl
  clear h
  generalize t.isList = R at *
  generalize t.kind = k at *
  by_cases k3 : k = 4
  · subst k3
    go_enter Tryz.func149, Tryz.ntmps149
    go_wp2
    go_ret
    exact ⟨ret_bool' (by rw [HI.out]; simp), made_end' w _⟩
  · have e3 := beq_f k3
    by_cases k2 : k = 5
    · subst k2
      go_enter Tryz.func149, Tryz.ntmps149
      go_wp2
      go_ret
      exact ⟨ret_bool' (by rw [HI.out]; simp), made_end' w _⟩
    · have e2 := beq_f k2
      have HR : Hid (R = false) := Lib.hid (by rw [HI.out]; simp [k3, k2])
      clear k3 k2
      go_enter Tryz.func149, Tryz.ntmps149
      go_wp2
      go_ret
      exact ⟨ret_bool' HR.out.symm, made_end' w _⟩
set_option maxRecDepth 100000 in
set_option maxHeartbeats 4000000 in
theorem sameId_any (t u : VT) (z z' : Zone) (v v' : Value) (w : World) (h : VLV z t w v) (h' : VLV z' u w v') (hM : ML w) (hbk : t.bulk ≤ 1073741824) (hbk' : u.bulk ≤ 1073741824) : Calls Tryz.prog 38 #[v, v'] w (Made (.bool (t.sameId u)) w) := by
  obtain ⟨A, n, cap, A', n', cap', rfl⟩ := h.parts
  obtain ⟨C, m, dap, C', m', dap', rfl⟩ := h'.parts
  have HM := Lib.hid hM
  have HI : Hid (t.sameId u = (t.isId && u.isId && decide (t.kind = u.kind) && (if t.kind = 3 then decide (t.text = u.text) else Num.same t.text.data.toList u.text.data.toList))) := Lib.hid rfl
  have HT := Lib.hid (Nat.le_trans (VT.text_bulk t) hbk)
  have HU := Lib.hid (Nat.le_trans (VT.text_bulk u) hbk')
  have H1 := Lib.hid (fun W (hb : Below w.heap.size w W) => isId_any t z _ W (h.up hb) (hM.on hb) hbk)
  have H2 := Lib.hid (fun W (hb : Below w.heap.size w W) => isId_any u z' _ W (h'.up hb) (hM.on hb) hbk')
  have HN := Lib.hid (fun W (hb : Below w.heap.size w W) => Same_any t.text u.text _ _ rfl rfl W (hM.on hb) (by have := HT.out; have : t.text.data.toList.length = t.text.size := Array.length_toList; omega) (by have := HU.out; have : u.text.data.toList.length = u.text.size := Array.length_toList; omega))
  clear h h' hM hbk hbk'
  generalize t.sameId u = R at *
  generalize t.isId = a at *
  generalize u.isId = b at *
  generalize t.kind = k at *
  generalize u.kind = k' at *
  generalize t.is = i at *
  generalize u.is = i' at *
  generalize Num.same t.text.data.toList u.text.data.toList = s at *
  generalize t.text = x at *
  generalize u.text = x' at *
  go_enter Tryz.func38, Tryz.ntmps38
  go_wp2_with fail
  refine at2 (fun W hX hY hB hz => ?_)
  refine (H1.out W hB).mono ?_
  rintro e w2 ⟨rfl, hb⟩
  have HX := Lib.hid (hX.on hb)
  have HY := Lib.hid (hY.on hb)
  have HB := Lib.hid (hB.trans (hb.mono hB.size))
  clear hX hY hb hB hz
  cases a
  · have HR : Hid (R = false) := Lib.hid (by rw [HI.out]; rfl)
    go_wp2
    go_ret
    exact ⟨ret_bool' HR.out.symm, HB.out⟩
  have hx := HY.out
  have y0 := hx.c 0 rfl
  have y1 := hx.c 1 rfl
  have y2 := hx.c 2 rfl
  have y3 := hx.c 3 rfl
  have y4 := hx.c 4 rfl
  clear hx
  go_wp2_with fail
  refine (H2.out w2 HB.out).mono ?_
  rintro e w3 ⟨rfl, hb⟩
  clear y0 y1 y2 y3 y4
  replace HX := Lib.hid (HX.out.on hb)
  replace HY := Lib.hid (HY.out.on hb)
  replace HB := Lib.hid (HB.out.trans (hb.mono HB.out.size))
  clear hb
  cases b
  · have HR : Hid (R = false) := Lib.hid (by rw [HI.out]; rfl)
    go_wp2
    go_ret
    exact ⟨ret_bool' HR.out.symm, HB.out⟩
  have hx := HX.out
  have x0 := hx.c 0 rfl
  have x2 := hx.c 2 rfl
  have hy := HY.out
  have y0 := hy.c 0 rfl
  have y2 := hy.c 2 rfl
  clear hx hy
  by_cases q : k = k'
  · subst q
    by_cases k3 : k = 3
    · subst k3
      have HR : Hid (R = decide (x = x')) := Lib.hid (by rw [HI.out]; simp)
      by_cases qx : x = x'
      · subst qx
        go_wp2
        go_ret
        exact ⟨ret_bool' (by rw [HR.out]; simp), HB.out⟩
      · obtain ⟨e1, e2⟩ := str_ne qx
        have HF : Hid (R = false) := Lib.hid (by rw [HR.out, decide_eq_false qx])
        clear qx
        go_wp2
        go_ret
        exact ⟨ret_bool' HF.out.symm, HB.out⟩
    · have HR : Hid (R = s) := Lib.hid (by rw [HI.out, if_neg k3]; simp)
      have e3 := beq_f k3
      clear k3
      go_wp2_with fail
      refine (HN.out w3 HB.out).mono ?_
      rintro e w4 ⟨rfl, hb⟩
      replace HB := Lib.hid (HB.out.trans (hb.mono HB.out.size))
      clear hb x0 x2 y0 y2
      go_wp2
      go_ret
      exact ⟨ret_bool' HR.out.symm, HB.out⟩
  · have e1 := bne_t q
    have HR : Hid (R = false) := Lib.hid (by rw [HI.out, decide_eq_false q]; simp)
    clear q
    go_wp2
    go_ret
    exact ⟨ret_bool' HR.out.symm, HB.out⟩
end Go.Proofs.YtfploakafbnigaaGreatDoor
