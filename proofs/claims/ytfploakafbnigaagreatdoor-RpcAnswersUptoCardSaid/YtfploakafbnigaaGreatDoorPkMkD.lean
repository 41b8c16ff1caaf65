/-
  Joined texts: MkDoc.
-/
import Derived.Test.YtfploakafbnigaaGreatDoorPkMkC
namespace Go.Proofs.YtfploakafbnigaaGreatDoor
open Go.RowKit Val Num Go.Proofs.YtfploakafbnigaaGreatDoorW.PrintLast
set_option linter.unusedVariables false
set_option linter.unusedSimpArgs false
def sevN : ByteArray := ⟨#[115, 101, 118, 101, 114, 105, 116, 121]⟩
def codeN : ByteArray := ⟨#[99, 111, 100, 101]⟩
def srcN : ByteArray := ⟨#[115, 111, 117, 114, 99, 101]⟩
def msgN : ByteArray := ⟨#[109, 101, 115, 115, 97, 103, 101]⟩
def coloN : ByteArray := ⟨#[99, 111, 108, 111, 112, 104, 111, 110]⟩
/-- a place, a range, a diagnostic, as values -/
def posT (a b : Int) : VT := obT [VT.lineN, VT.charN] [nbT a, nbT b]
def rangeT (a b c d : Int) : VT := obT [VT.startN, VT.endN] [posT a b, posT c d]
def diagT (a b c d k : Int) (s : ByteArray) : VT := obT [VT.rangeN, sevN, codeN, srcN, msgN] [rangeT a b c d, nbT 1, nbT k, txT coloN, txT s]
theorem numS_len2 (v : Int) (h : I64 v) : (bs (numS v)).size ≤ 20 := by
  have h1 := h.1
  have h2 := h.2
  have hn : v.natAbs ≤ 9223372036854775808 := by omega
  rw [bs_size]
  have := textS_len v.natAbs 18 (by omega)
  unfold numS
  split
  · simp only [List.length_cons]; omega
  · omega
theorem nbT_bulk (v : Int) (h : I64 v) : (nbT v).bulk ≤ 21 := by
  have := numS_len2 v h
  show 1 + (bs (numS v)).size + 0 + 0 + 0 + 0 ≤ 21
  omega
theorem posT_bulk (a b : Int) (ha : I64 a) (hb : I64 b) : (posT a b).bulk ≤ 100 := by
  have := nbT_bulk a ha
  have := nbT_bulk b hb
  show 1 + 0 + 2 + 2 + (4 + (9 + 0)) + (0 + (nbT a).bulk + (nbT b).bulk) ≤ 100
  omega
theorem rangeT_bulk (a b c d : Int) (ha : I64 a) (hb : I64 b) (hc : I64 c) (hd : I64 d) : (rangeT a b c d).bulk ≤ 300 := by
  have := posT_bulk a b ha hb
  have := posT_bulk c d hc hd
  show 1 + 0 + 2 + 2 + (5 + (3 + 0)) + (0 + (posT a b).bulk + (posT c d).bulk) ≤ 300
  omega
theorem diagT_bulk (a b c d k : Int) (s : ByteArray) (ha : I64 a) (hb : I64 b) (hc : I64 c) (hd : I64 d) (hk : I64 k) : (diagT a b c d k s).bulk ≤ 500 + s.size := by
  have := rangeT_bulk a b c d ha hb hc hd
  have := nbT_bulk k hk
  have := nbT_bulk 1 (by unfold I64; omega)
  show 1 + 0 + 5 + 5 + (5 + (8 + (4 + (6 + (7 + 0))))) + (0 + (rangeT a b c d).bulk + (nbT 1).bulk + (nbT k).bulk + (1 + 8 + 0 + 0 + 0 + 0) + (1 + s.size + 0 + 0 + 0 + 0)) ≤ _
  omega
set_option maxRecDepth 100000 in
set_option maxHeartbeats 4000000 in
theorem rMake_any (w : World) (z : Zone) {m : List ByteArray} {l : List VT} (v' v : Value) (h' : TSV z m w v') (h : VSV z l w v) (hl : m.length = l.length) (hbk : (obT m l).bulk ≤ 1073741824) :
    Calls Tryz.prog 139 #[v', v] w fun e w' => ∃ x, e = .returned (.tuple #[x, .int .i64 0]) ∧ VAL w' (New w w') (obT m l) x ∧ Below w.heap.size w w' := by
  obtain ⟨A, cap, rfl, hV⟩ := h
  obtain ⟨A', cap', rfl, hT⟩ := h'
  have HT := Lib.hid (show VAL w (z.S w) (obT m l) (.agg #[.int .i64 5, .bool false, .string ⟨#[]⟩, .slice A l.length cap, .slice A' m.length cap']) from VAL.shut (by decide) hT hV)
  have HBK := Lib.hid hbk
  have HZ := Lib.hid (z.lt w)
  have HBX := Lib.hid (BX.new w (.int .i64 0) (.bool false) (.string ⟨#[]⟩) (.slice none 0 0) (.slice none 0 0))
  have HB := Lib.hid (made_end (w := w) (.cells #[.int .i64 0, .bool false, .string ⟨#[]⟩, .slice none 0 0, .slice none 0 0] 25))
  have q1 : ((m.length : Int) != (l.length : Int)) = false := by rw [hl]; simp
  have q2 : (m.length != l.length) = false := by rw [hl]; simp
  clear hV hT hbk hl
  go_enter Tryz.func139, Tryz.ntmps139
  go_wp2_with fail
  generalize (w.alloc (.cells #[.int .i64 0, .bool false, .string ⟨#[]⟩, .slice none 0 0, .slice none 0 0] 25)) = w1 at *
  refine (refCopy_any (obT m l) w1 _ _ (VAL.on HT.out HZ.out HB.out) (fun b hb => Nat.lt_of_lt_of_le (HZ.out b hb) HB.out.size) HBK.out).mono ?_
  rintro e w2 ⟨x, rfl, hx, hb⟩
  obtain ⟨k, i, s, X, n, c, Y, p, d, rfl⟩ := VAL.shape hx
  have HX := Lib.hid hx
  have HB2 := Lib.hid (HB.out.trans (hb.mono HB.out.size))
  have hy := HBX.out.on hb
  have HZ1 := Lib.hid HBX.out.lt
  have y0 := hy.c0
  have y1 := hy.c1
  have y2 := hy.c2
  have y3 := hy.c3
  have y4 := hy.c4
  have f0 := hy.fr 0
  have f1 := hy.fr 1
  have f2 := hy.fr 2
  have f3 := hy.fr 3
  have f4 := hy.fr 4
  have hres := hy.put (.int .i64 k) (.bool i) (.string s) (.slice X n c) (.slice Y p d)
  have r0 := hres.c0
  have r1 := hres.c1
  have r2 := hres.c2
  have r3 := hres.c3
  have r4 := hres.c4
  clear hres hy hb hx
  go_wp2
  refine bodyPost_ret (v := .tuple #[.agg #[.int .i64 k, .bool i, .string s, .slice X n c, .slice Y p d], .int .i64 0]) (by simp [results, Tryz.results139, go_sem, r0, r1, r2, r3, r4]) rfl ⟨_, rfl, five_New HX.out (fun b hb => ⟨by have := hb.1; have := HZ1.out; omega, hb.2, by have := hb.1; have := HZ1.out; omega⟩), five_below HB2.out w.heap.size _ _ _ _ _ (Nat.le_refl _)⟩
set_option maxRecDepth 100000 in
set_option maxHeartbeats 4000000 in
theorem rObject_any (w : World) (z : Zone) {m : List ByteArray} {l : List VT} (v' v : Value) (h' : TSV z m w v') (h : VSV z l w v) (hl : m.length = l.length) (hbk : (obT m l).bulk ≤ 1073741824) :
    Calls Tryz.prog 73 #[v', v] w (Copied (obT m l) w) := by
  have HBX := Lib.hid (BX.new w (.int .i64 0) (.bool false) (.string ⟨#[]⟩) (.slice none 0 0) (.slice none 0 0))
  have HB := Lib.hid (made_end (w := w) (.cells #[.int .i64 0, .bool false, .string ⟨#[]⟩, .slice none 0 0, .slice none 0 0] 25))
  have HM := Lib.hid (rMake_any _ z v' v (h'.up HB.out) (h.up HB.out) hl hbk)
  obtain ⟨A, cap, rfl, -⟩ := h
  obtain ⟨A', cap', rfl, -⟩ := h'
  clear hbk hl
  go_enter Tryz.func73, Tryz.ntmps73
  go_wp2_with fail
  generalize (w.alloc (.cells #[.int .i64 0, .bool false, .string ⟨#[]⟩, .slice none 0 0, .slice none 0 0] 25)) = w1 at *
  refine (HM.out).mono ?_
  rintro e w2 ⟨x, rfl, hx, hb⟩
  obtain ⟨k, i, s, X, n, c, Y, p, d, rfl⟩ := VAL.shape hx
  have HX := Lib.hid hx
  have HB2 := Lib.hid (HB.out.trans (hb.mono HB.out.size))
  have HBX2 := Lib.hid (HBX.out.on hb)
  have HZ1 := Lib.hid HBX.out.lt
  clear HBX HM hb hx
  go_upto_region 2 with (fail)
  have hba := made_end (w := w2) (.cells #[.int .i64 k, .bool i, .string s, .slice X n c, .slice Y p d] 25)
  have HN := Lib.hid (BX.new w2 (.int .i64 k) (.bool i) (.string s) (.slice X n c) (.slice Y p d))
  have HS := Lib.hid hba.size
  replace HX := Lib.hid (HX.out.on (fun b hb => hb.2) hba)
  replace HBX2 := Lib.hid (HBX2.out.on hba)
  replace HB2 := Lib.hid (HB2.out.trans (hba.mono HB2.out.size))
  clear hba
  generalize (w2.alloc (.cells #[.int .i64 k, .bool i, .string s, .slice X n c, .slice Y p d] 25)) = w3 at *
  have hn := HN.out
  have z0 := hn.c0
  have z1 := hn.c1
  have z2 := hn.c2
  have z3 := hn.c3
  have z4 := hn.c4
  have hy := HBX2.out
  have y0 := hy.c0
  have y1 := hy.c1
  have y2 := hy.c2
  have y3 := hy.c3
  have y4 := hy.c4
  have f0 := hy.fr 0
  have f1 := hy.fr 1
  have f2 := hy.fr 2
  have f3 := hy.fr 3
  have f4 := hy.fr 4
  have hres := hy.put (.int .i64 k) (.bool i) (.string s) (.slice X n c) (.slice Y p d)
  have r0 := hres.c0
  have r1 := hres.c1
  have r2 := hres.c2
  have r3 := hres.c3
  have r4 := hres.c4
  clear hres hy hn
  go_wp2
  refine bodyPost_ret (v := .agg #[.int .i64 k, .bool i, .string s, .slice X n c, .slice Y p d]) (by simp [results, Tryz.results73, go_sem, r0, r1, r2, r3, r4]) rfl ⟨_, rfl, five_New HX.out (fun b hb => ⟨by have := hb.1; have := HZ1.out; omega, by have := hb.2; have := HS.out; omega, by have := hb.1; have := HZ1.out; omega⟩), five_below HB2.out w.heap.size _ _ _ _ _ (Nat.le_refl _)⟩
end Go.Proofs.YtfploakafbnigaaGreatDoor
