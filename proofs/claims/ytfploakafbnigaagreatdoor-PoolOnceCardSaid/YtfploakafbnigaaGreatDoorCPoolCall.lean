/-
  Layer 28, the walks: Call.
-/
import Derived.Test.YtfploakafbnigaaGreatDoorCPoolLay
import Derived.Test.YtfploakafbnigaaGreatDoorCPoolCopy
namespace Go.Proofs.YtfploakafbnigaaGreatDoor
open Go.RowKit Val Pl YtfploakafbnigaaGreatDoorW.PrintLast
set_option linter.unusedVariables false
set_option linter.unusedSimpArgs false
theorem PO.from_i {B : Nat} {s' : Pst Int} {h : PH} {v : Value} {w w1 w' : World} {e : Ending} (hb : Below w.heap.size w w1) (k : PO (Value.int .i64) 132 86 136 B (s') h (v) w1 e w') : PO (Value.int .i64) 132 86 136 B (s') h (v) w e w' := by
  obtain ⟨h', e1, e2, p, m⟩ := k
  exact ⟨h', e1, e2, p, (Mv.of hb).trans m⟩
set_option maxRecDepth 100000 in
set_option maxHeartbeats 4000000 in
theorem Call_i {B : Nat} {s : Pst Int} {h : PH} (i : LId) (x : Int) (w : World) (p : PMi B s h w) (hi : LId.ok i) : Calls Tryz.prog 41 #[.pointer (some ⟨h.pb, 0, none⟩), .agg (LId.cells i).toArray, (Value.int .i64) x] w (PO (Value.int .i64) 132 86 136 B ((s.call i x).2) h (.int .i64 (s.call i x).1) w) := by
  have HP := Lib.hid p
  have HI := Lib.hid hi
  have HS := Lib.hid (fun W (hM : ML W) => sameId_any i.vt i.vt (zLt 0) (zLt 0) _ _ W (leaf_VLV hi) (leaf_VLV hi) hM (by have := hi.2; rw [leaf_bulk]; omega) (by have := hi.2; rw [leaf_bulk]; omega))
  have HC := Lib.hid (fun W => Copy_leaf i W)
  have hE : Pst.call s i x = if (!i.same i || s.has i) = true then (2, s) else s.lay ⟨true, i, ⟨#[]⟩, x, false⟩ := rfl
  obtain ⟨pb, hpb⟩ : ∃ b, h.pb = b := ⟨_, rfl⟩
  have HPB := Lib.hid hpb
  have hsm : i.vt.sameId i.vt = i.same i := rfl
  rw [hsm] at HS
  rw [hE, hpb]
  obtain ⟨sm, hsm⟩ : ∃ b, i.same i = b := ⟨_, rfl⟩
  obtain ⟨hs, hhs⟩ : ∃ b, s.has i = b := ⟨_, rfl⟩
  have HH := Lib.hid hhs
  rw [hsm] at HS ⊢
  rw [hhs]
  clear p hi hE hpb hsm hhs
  unfold LId.cells at *
  cases sm
  · have e0 : (if (!false || hs) = true then ((2 : Int), s) else s.lay ⟨true, i, ⟨#[]⟩, x, false⟩) = (2, s) := rfl
    rw [e0]
    dsimp only
    clear e0
    go_enter Tryz.func41, Tryz.ntmps41
    go_upto_region 1 with (fail)
    have hb := made_end' w (.cells #[.int .i64 i.kind, .bool false, .string i.text, .slice none 0 0, .slice none 0 0] 25)
    have hX := BK.new w 25 #[.int .i64 i.kind, .bool false, .string i.text, .slice none 0 0, .slice none 0 0]
    replace HP := Lib.hid (HP.out.on hb)
    have HB := Lib.hid hb
    clear hb
    generalize (w.alloc (.cells #[.int .i64 i.kind, .bool false, .string i.text, .slice none 0 0, .slice none 0 0] 25)) = w1 at *
    have y0 := hX.c 0 rfl
    have y1 := hX.c 1 rfl
    have y2 := hX.c 2 rfl
    have y3 := hX.c 3 rfl
    have y4 := hX.c 4 rfl
    go_wp2_with fail
    rw [← HPB.out]
    refine (none_i w1 HP.out).mono ?_
    rintro e w2 ⟨rfl, rfl⟩
    go_wp2_with fail
    refine (HS.out w1 HP.out.ml).mono ?_
    rintro e w2 ⟨rfl, hb⟩
    clear y0 y1 y2 y3 y4
    replace hX := hX.on hb
    replace HP := Lib.hid (HP.out.on hb)
    replace HB := Lib.hid (HB.out.trans (hb.mono HB.out.size))
    clear hb
    have y0 := hX.c 0 rfl
    have y1 := hX.c 1 rfl
    have y2 := hX.c 2 rfl
    have y3 := hX.c 3 rfl
    have y4 := hX.c 4 rfl
    go_wp2
    go_ret
    exact PO.from_i HB.out (HP.out.read rfl (Below.refl _ _))
  cases hs
  · have e0 : (if (!true || false) = true then ((2 : Int), s) else s.lay ⟨true, i, ⟨#[]⟩, x, false⟩) = s.lay ⟨true, i, ⟨#[]⟩, x, false⟩ := rfl
    rw [e0]
    clear e0
    go_enter Tryz.func41, Tryz.ntmps41
    go_upto_region 1 with (fail)
    have hb := made_end' w (.cells #[.int .i64 i.kind, .bool false, .string i.text, .slice none 0 0, .slice none 0 0] 25)
    have hX := BK.new w 25 #[.int .i64 i.kind, .bool false, .string i.text, .slice none 0 0, .slice none 0 0]
    replace HP := Lib.hid (HP.out.on hb)
    have HB := Lib.hid hb
    clear hb
    generalize (w.alloc (.cells #[.int .i64 i.kind, .bool false, .string i.text, .slice none 0 0, .slice none 0 0] 25)) = w1 at *
    have y0 := hX.c 0 rfl
    have y1 := hX.c 1 rfl
    have y2 := hX.c 2 rfl
    have y3 := hX.c 3 rfl
    have y4 := hX.c 4 rfl
    go_wp2_with fail
    rw [← HPB.out]
    refine (none_i w1 HP.out).mono ?_
    rintro e w2 ⟨rfl, rfl⟩
    go_wp2_with fail
    refine (HS.out w1 HP.out.ml).mono ?_
    rintro e w2 ⟨rfl, hb⟩
    clear y0 y1 y2 y3 y4
    replace hX := hX.on hb
    replace HP := Lib.hid (HP.out.on hb)
    replace HB := Lib.hid (HB.out.trans (hb.mono HB.out.size))
    clear hb
    have y0 := hX.c 0 rfl
    have y1 := hX.c 1 rfl
    have y2 := hX.c 2 rfl
    have y3 := hX.c 3 rfl
    have y4 := hX.c 4 rfl
    go_wp2_with fail
    refine (Has_i i w2 HP.out HI.out).mono ?_
    rintro e w3 ⟨rfl, hb⟩
    rw [HH.out]
    clear y0 y1 y2 y3 y4
    replace hX := hX.on hb
    replace HP := Lib.hid (HP.out.on hb)
    replace HB := Lib.hid (HB.out.trans (hb.mono HB.out.size))
    clear hb
    have y0 := hX.c 0 rfl
    have y1 := hX.c 1 rfl
    have y2 := hX.c 2 rfl
    have y3 := hX.c 3 rfl
    have y4 := hX.c 4 rfl
    go_wp2_with fail
    refine (HC.out w3).mono ?_
    rintro e w4 ⟨rfl, hb⟩
    clear y0 y1 y2 y3 y4
    replace hX := hX.on hb
    replace HP := Lib.hid (HP.out.on hb)
    replace HB := Lib.hid (HB.out.trans (hb.mono HB.out.size))
    clear hb
    have y0 := hX.c 0 rfl
    have y1 := hX.c 1 rfl
    have y2 := hX.c 2 rfl
    have y3 := hX.c 3 rfl
    have y4 := hX.c 4 rfl
    go_wp2_with fail
    refine (lay_i ⟨true, i, ⟨#[]⟩, x, false⟩ w4 HP.out HI.out).mono ?_
    rintro e w5 ⟨h', rfl, e2, p', m⟩
    go_wp2
    go_ret
    exact ⟨h', rfl, e2, p', (Mv.of HB.out).trans m⟩
  · have e0 : (if (!true || true) = true then ((2 : Int), s) else s.lay ⟨true, i, ⟨#[]⟩, x, false⟩) = (2, s) := rfl
    rw [e0]
    dsimp only
    clear e0
    go_enter Tryz.func41, Tryz.ntmps41
    go_upto_region 1 with (fail)
    have hb := made_end' w (.cells #[.int .i64 i.kind, .bool false, .string i.text, .slice none 0 0, .slice none 0 0] 25)
    have hX := BK.new w 25 #[.int .i64 i.kind, .bool false, .string i.text, .slice none 0 0, .slice none 0 0]
    replace HP := Lib.hid (HP.out.on hb)
    have HB := Lib.hid hb
    clear hb
    generalize (w.alloc (.cells #[.int .i64 i.kind, .bool false, .string i.text, .slice none 0 0, .slice none 0 0] 25)) = w1 at *
    have y0 := hX.c 0 rfl
    have y1 := hX.c 1 rfl
    have y2 := hX.c 2 rfl
    have y3 := hX.c 3 rfl
    have y4 := hX.c 4 rfl
    go_wp2_with fail
    rw [← HPB.out]
    refine (none_i w1 HP.out).mono ?_
    rintro e w2 ⟨rfl, rfl⟩
    go_wp2_with fail
    refine (HS.out w1 HP.out.ml).mono ?_
    rintro e w2 ⟨rfl, hb⟩
    clear y0 y1 y2 y3 y4
    replace hX := hX.on hb
    replace HP := Lib.hid (HP.out.on hb)
    replace HB := Lib.hid (HB.out.trans (hb.mono HB.out.size))
    clear hb
    have y0 := hX.c 0 rfl
    have y1 := hX.c 1 rfl
    have y2 := hX.c 2 rfl
    have y3 := hX.c 3 rfl
    have y4 := hX.c 4 rfl
    go_wp2_with fail
    refine (Has_i i w2 HP.out HI.out).mono ?_
    rintro e w3 ⟨rfl, hb⟩
    rw [HH.out]
    clear y0 y1 y2 y3 y4
    replace hX := hX.on hb
    replace HP := Lib.hid (HP.out.on hb)
    replace HB := Lib.hid (HB.out.trans (hb.mono HB.out.size))
    clear hb
    have y0 := hX.c 0 rfl
    have y1 := hX.c 1 rfl
    have y2 := hX.c 2 rfl
    have y3 := hX.c 3 rfl
    have y4 := hX.c 4 rfl
    go_wp2
    go_ret
    exact PO.from_i HB.out (HP.out.read rfl (Below.refl _ _))
theorem PO.from_s {B : Nat} {s' : Pst ByteArray} {h : PH} {v : Value} {w w1 w' : World} {e : Ending} (hb : Below w.heap.size w w1) (k : PO Value.string 203 200 204 B (s') h (v) w1 e w') : PO Value.string 203 200 204 B (s') h (v) w e w' := by
  obtain ⟨h', e1, e2, p, m⟩ := k
  exact ⟨h', e1, e2, p, (Mv.of hb).trans m⟩
set_option maxRecDepth 100000 in
set_option maxHeartbeats 4000000 in
theorem Call_s {B : Nat} {s : Pst ByteArray} {h : PH} (i : LId) (x : ByteArray) (w : World) (p : PMs B s h w) (hi : LId.ok i) : Calls Tryz.prog 113 #[.pointer (some ⟨h.pb, 0, none⟩), .agg (LId.cells i).toArray, Value.string x] w (PO Value.string 203 200 204 B ((s.call i x).2) h (.int .i64 (s.call i x).1) w) := by
  have HP := Lib.hid p
  have HI := Lib.hid hi
  have HS := Lib.hid (fun W (hM : ML W) => sameId_any i.vt i.vt (zLt 0) (zLt 0) _ _ W (leaf_VLV hi) (leaf_VLV hi) hM (by have := hi.2; rw [leaf_bulk]; omega) (by have := hi.2; rw [leaf_bulk]; omega))
  have HC := Lib.hid (fun W => Copy_leaf i W)
  have hE : Pst.call s i x = if (!i.same i || s.has i) = true then (2, s) else s.lay ⟨true, i, ⟨#[]⟩, x, false⟩ := rfl
  obtain ⟨pb, hpb⟩ : ∃ b, h.pb = b := ⟨_, rfl⟩
  have HPB := Lib.hid hpb
  have hsm : i.vt.sameId i.vt = i.same i := rfl
  rw [hsm] at HS
  rw [hE, hpb]
  obtain ⟨sm, hsm⟩ : ∃ b, i.same i = b := ⟨_, rfl⟩
  obtain ⟨hs, hhs⟩ : ∃ b, s.has i = b := ⟨_, rfl⟩
  have HH := Lib.hid hhs
  rw [hsm] at HS ⊢
  rw [hhs]
  clear p hi hE hpb hsm hhs
  unfold LId.cells at *
  cases sm
  · have e0 : (if (!false || hs) = true then ((2 : Int), s) else s.lay ⟨true, i, ⟨#[]⟩, x, false⟩) = (2, s) := rfl
    rw [e0]
    dsimp only
    clear e0
    go_enter Tryz.func113, Tryz.ntmps113
    go_upto_region 1 with (fail)
    have hb := made_end' w (.cells #[.int .i64 i.kind, .bool false, .string i.text, .slice none 0 0, .slice none 0 0] 25)
    have hX := BK.new w 25 #[.int .i64 i.kind, .bool false, .string i.text, .slice none 0 0, .slice none 0 0]
    replace HP := Lib.hid (HP.out.on hb)
    have HB := Lib.hid hb
    clear hb
    generalize (w.alloc (.cells #[.int .i64 i.kind, .bool false, .string i.text, .slice none 0 0, .slice none 0 0] 25)) = w1 at *
    have y0 := hX.c 0 rfl
    have y1 := hX.c 1 rfl
    have y2 := hX.c 2 rfl
    have y3 := hX.c 3 rfl
    have y4 := hX.c 4 rfl
    go_wp2_with fail
    rw [← HPB.out]
    refine (none_s w1 HP.out).mono ?_
    rintro e w2 ⟨rfl, rfl⟩
    go_wp2_with fail
    refine (HS.out w1 HP.out.ml).mono ?_
    rintro e w2 ⟨rfl, hb⟩
    clear y0 y1 y2 y3 y4
    replace hX := hX.on hb
    replace HP := Lib.hid (HP.out.on hb)
    replace HB := Lib.hid (HB.out.trans (hb.mono HB.out.size))
    clear hb
    have y0 := hX.c 0 rfl
    have y1 := hX.c 1 rfl
    have y2 := hX.c 2 rfl
    have y3 := hX.c 3 rfl
    have y4 := hX.c 4 rfl
    go_wp2
    go_ret
    exact PO.from_s HB.out (HP.out.read rfl (Below.refl _ _))
  cases hs
  · have e0 : (if (!true || false) = true then ((2 : Int), s) else s.lay ⟨true, i, ⟨#[]⟩, x, false⟩) = s.lay ⟨true, i, ⟨#[]⟩, x, false⟩ := rfl
    rw [e0]
    clear e0
    go_enter Tryz.func113, Tryz.ntmps113
    go_upto_region 1 with (fail)
    have hb := made_end' w (.cells #[.int .i64 i.kind, .bool false, .string i.text, .slice none 0 0, .slice none 0 0] 25)
    have hX := BK.new w 25 #[.int .i64 i.kind, .bool false, .string i.text, .slice none 0 0, .slice none 0 0]
    replace HP := Lib.hid (HP.out.on hb)
    have HB := Lib.hid hb
    clear hb
    generalize (w.alloc (.cells #[.int .i64 i.kind, .bool false, .string i.text, .slice none 0 0, .slice none 0 0] 25)) = w1 at *
    have y0 := hX.c 0 rfl
    have y1 := hX.c 1 rfl
    have y2 := hX.c 2 rfl
    have y3 := hX.c 3 rfl
    have y4 := hX.c 4 rfl
    go_wp2_with fail
    rw [← HPB.out]
    refine (none_s w1 HP.out).mono ?_
    rintro e w2 ⟨rfl, rfl⟩
    go_wp2_with fail
    refine (HS.out w1 HP.out.ml).mono ?_
    rintro e w2 ⟨rfl, hb⟩
    clear y0 y1 y2 y3 y4
    replace hX := hX.on hb
    replace HP := Lib.hid (HP.out.on hb)
    replace HB := Lib.hid (HB.out.trans (hb.mono HB.out.size))
    clear hb
    have y0 := hX.c 0 rfl
    have y1 := hX.c 1 rfl
    have y2 := hX.c 2 rfl
    have y3 := hX.c 3 rfl
    have y4 := hX.c 4 rfl
    go_wp2_with fail
    refine (Has_s i w2 HP.out HI.out).mono ?_
    rintro e w3 ⟨rfl, hb⟩
    rw [HH.out]
    clear y0 y1 y2 y3 y4
    replace hX := hX.on hb
    replace HP := Lib.hid (HP.out.on hb)
    replace HB := Lib.hid (HB.out.trans (hb.mono HB.out.size))
    clear hb
    have y0 := hX.c 0 rfl
    have y1 := hX.c 1 rfl
    have y2 := hX.c 2 rfl
    have y3 := hX.c 3 rfl
    have y4 := hX.c 4 rfl
    go_wp2_with fail
    refine (HC.out w3).mono ?_
    rintro e w4 ⟨rfl, hb⟩
    clear y0 y1 y2 y3 y4
    replace hX := hX.on hb
    replace HP := Lib.hid (HP.out.on hb)
    replace HB := Lib.hid (HB.out.trans (hb.mono HB.out.size))
    clear hb
    have y0 := hX.c 0 rfl
    have y1 := hX.c 1 rfl
    have y2 := hX.c 2 rfl
    have y3 := hX.c 3 rfl
    have y4 := hX.c 4 rfl
    go_wp2_with fail
    refine (lay_s ⟨true, i, ⟨#[]⟩, x, false⟩ w4 HP.out HI.out).mono ?_
    rintro e w5 ⟨h', rfl, e2, p', m⟩
    go_wp2
    go_ret
    exact ⟨h', rfl, e2, p', (Mv.of HB.out).trans m⟩
  · have e0 : (if (!true || true) = true then ((2 : Int), s) else s.lay ⟨true, i, ⟨#[]⟩, x, false⟩) = (2, s) := rfl
    rw [e0]
    dsimp only
    clear e0
    go_enter Tryz.func113, Tryz.ntmps113
    go_upto_region 1 with (fail)
    have hb := made_end' w (.cells #[.int .i64 i.kind, .bool false, .string i.text, .slice none 0 0, .slice none 0 0] 25)
    have hX := BK.new w 25 #[.int .i64 i.kind, .bool false, .string i.text, .slice none 0 0, .slice none 0 0]
    replace HP := Lib.hid (HP.out.on hb)
    have HB := Lib.hid hb
    clear hb
    generalize (w.alloc (.cells #[.int .i64 i.kind, .bool false, .string i.text, .slice none 0 0, .slice none 0 0] 25)) = w1 at *
    have y0 := hX.c 0 rfl
    have y1 := hX.c 1 rfl
    have y2 := hX.c 2 rfl
    have y3 := hX.c 3 rfl
    have y4 := hX.c 4 rfl
    go_wp2_with fail
    rw [← HPB.out]
    refine (none_s w1 HP.out).mono ?_
    rintro e w2 ⟨rfl, rfl⟩
    go_wp2_with fail
    refine (HS.out w1 HP.out.ml).mono ?_
    rintro e w2 ⟨rfl, hb⟩
    clear y0 y1 y2 y3 y4
    replace hX := hX.on hb
    replace HP := Lib.hid (HP.out.on hb)
    replace HB := Lib.hid (HB.out.trans (hb.mono HB.out.size))
    clear hb
    have y0 := hX.c 0 rfl
    have y1 := hX.c 1 rfl
    have y2 := hX.c 2 rfl
    have y3 := hX.c 3 rfl
    have y4 := hX.c 4 rfl
    go_wp2_with fail
    refine (Has_s i w2 HP.out HI.out).mono ?_
    rintro e w3 ⟨rfl, hb⟩
    rw [HH.out]
    clear y0 y1 y2 y3 y4
    replace hX := hX.on hb
    replace HP := Lib.hid (HP.out.on hb)
    replace HB := Lib.hid (HB.out.trans (hb.mono HB.out.size))
    clear hb
    have y0 := hX.c 0 rfl
    have y1 := hX.c 1 rfl
    have y2 := hX.c 2 rfl
    have y3 := hX.c 3 rfl
    have y4 := hX.c 4 rfl
    go_wp2
    go_ret
    exact PO.from_s HB.out (HP.out.read rfl (Below.refl _ _))
end Go.Proofs.YtfploakafbnigaaGreatDoor
