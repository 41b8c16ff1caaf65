/-
  Joined texts: ParMade ParMPlace ParTold ParAwake.
-/
import Derived.Test.YtfploakafbnigaaGreatDoorPkParB
import Derived.Test.YtfploakafbnigaaGreatDoorPkParA
import Derived.Test.YtfploakafbnigaaGreatDoorRegKit
import Derived.Below
import Derived.Deep.DeepCutAuto
import Derived.Deep.CutBlock
namespace Go.Proofs.YtfploakafbnigaaGreatDoor
open Go.RowKit Val
set_option linter.unusedVariables false
set_option linter.unusedSimpArgs false

/-- this value is handed back, and nothing that was is touched -/
def Made (v : Value) (w : World) (e : Ending) (w' : World) : Prop := e = .returned v ∧ Below w.heap.size w w'

theorem made_end {w : World} (o : Obj) : Below w.heap.size w (w.alloc o) := (Below.refl _ _).alloc (Nat.le_refl _) _

set_option maxRecDepth 100000 in
set_option maxHeartbeats 4000000 in
theorem mText_any (s : ByteArray) (w : World) : Calls Tryz.prog 15 #[.string s] w (Made (.agg #[.int .i64 3, .bool false, .string s, .slice none 0 0, .slice none 0 0]) w) := by
  go_enter Tryz.func15, Tryz.ntmps15
  have HY : BX (w.alloc (.cells #[.int .i64 0, .bool false, .string ⟨#[]⟩, .slice none 0 0, .slice none 0 0] 25)) w.heap.size (.int .i64 0) (.bool false) (.string ⟨#[]⟩) (.slice none 0 0) (.slice none 0 0) := BX.new _ _ _ _ _ _
  have y0 := HY.c0
  have y1 := HY.c1
  have y2 := HY.c2
  have y3 := HY.c3
  have y4 := HY.c4
  have f0 := HY.fr 0
  have f1 := HY.fr 1
  have f2 := HY.fr 2
  have f3 := HY.fr 3
  have f4 := HY.fr 4
  have hres := HY.put (.int .i64 3) (.bool false) (.string s) (.slice none 0 0) (.slice none 0 0)
  have r0 := hres.c0
  have r1 := hres.c1
  have r2 := hres.c2
  have r3 := hres.c3
  have r4 := hres.c4
  clear hres
  go_wp2
  exact bodyPost_ret (v := .agg #[.int .i64 3, .bool false, .string s, .slice none 0 0, .slice none 0 0]) (by simp [results, Tryz.results15, go_sem, r0, r1, r2, r3, r4]) rfl ⟨rfl, made_end _⟩
set_option maxRecDepth 100000 in
set_option maxHeartbeats 4000000 in
theorem mNumber_any (s : ByteArray) (w : World) : Calls Tryz.prog 16 #[.string s] w (Made (.agg #[.int .i64 2, .bool false, .string s, .slice none 0 0, .slice none 0 0]) w) := by
  go_enter Tryz.func16, Tryz.ntmps16
  have HY : BX (w.alloc (.cells #[.int .i64 0, .bool false, .string ⟨#[]⟩, .slice none 0 0, .slice none 0 0] 25)) w.heap.size (.int .i64 0) (.bool false) (.string ⟨#[]⟩) (.slice none 0 0) (.slice none 0 0) := BX.new _ _ _ _ _ _
  have y0 := HY.c0
  have y1 := HY.c1
  have y2 := HY.c2
  have y3 := HY.c3
  have y4 := HY.c4
  have f0 := HY.fr 0
  have f1 := HY.fr 1
  have f2 := HY.fr 2
  have f3 := HY.fr 3
  have f4 := HY.fr 4
  have hres := HY.put (.int .i64 2) (.bool false) (.string s) (.slice none 0 0) (.slice none 0 0)
  have r0 := hres.c0
  have r1 := hres.c1
  have r2 := hres.c2
  have r3 := hres.c3
  have r4 := hres.c4
  clear hres
  go_wp2
  exact bodyPost_ret (v := .agg #[.int .i64 2, .bool false, .string s, .slice none 0 0, .slice none 0 0]) (by simp [results, Tryz.results16, go_sem, r0, r1, r2, r3, r4]) rfl ⟨rfl, made_end _⟩
set_option maxRecDepth 100000 in
set_option maxHeartbeats 4000000 in
theorem mList_any (A : Option Addr) (n cap : Nat) (w : World) : Calls Tryz.prog 18 #[.slice A n cap] w (Made (.agg #[.int .i64 4, .bool false, .string ⟨#[]⟩, .slice A n cap, .slice none 0 0]) w) := by
  go_enter Tryz.func18, Tryz.ntmps18
  have HY : BX (w.alloc (.cells #[.int .i64 0, .bool false, .string ⟨#[]⟩, .slice none 0 0, .slice none 0 0] 25)) w.heap.size (.int .i64 0) (.bool false) (.string ⟨#[]⟩) (.slice none 0 0) (.slice none 0 0) := BX.new _ _ _ _ _ _
  have y0 := HY.c0
  have y1 := HY.c1
  have y2 := HY.c2
  have y3 := HY.c3
  have y4 := HY.c4
  have f0 := HY.fr 0
  have f1 := HY.fr 1
  have f2 := HY.fr 2
  have f3 := HY.fr 3
  have f4 := HY.fr 4
  have hres := HY.put (.int .i64 4) (.bool false) (.string ⟨#[]⟩) (.slice A n cap) (.slice none 0 0)
  have r0 := hres.c0
  have r1 := hres.c1
  have r2 := hres.c2
  have r3 := hres.c3
  have r4 := hres.c4
  clear hres
  go_wp2
  exact bodyPost_ret (v := .agg #[.int .i64 4, .bool false, .string ⟨#[]⟩, .slice A n cap, .slice none 0 0]) (by simp [results, Tryz.results18, go_sem, r0, r1, r2, r3, r4]) rfl ⟨rfl, made_end _⟩
set_option maxRecDepth 100000 in
set_option maxHeartbeats 4000000 in
theorem mObject_any (A A' : Option Addr) (n cap n' cap' : Nat) (w : World) : Calls Tryz.prog 14 #[.slice A' n' cap', .slice A n cap] w (Made (.agg #[.int .i64 5, .bool false, .string ⟨#[]⟩, .slice A n cap, .slice A' n' cap']) w) := by
  go_enter Tryz.func14, Tryz.ntmps14
  have HY : BX (w.alloc (.cells #[.int .i64 0, .bool false, .string ⟨#[]⟩, .slice none 0 0, .slice none 0 0] 25)) w.heap.size (.int .i64 0) (.bool false) (.string ⟨#[]⟩) (.slice none 0 0) (.slice none 0 0) := BX.new _ _ _ _ _ _
  have y0 := HY.c0
  have y1 := HY.c1
  have y2 := HY.c2
  have y3 := HY.c3
  have y4 := HY.c4
  have f0 := HY.fr 0
  have f1 := HY.fr 1
  have f2 := HY.fr 2
  have f3 := HY.fr 3
  have f4 := HY.fr 4
  have hres := HY.put (.int .i64 5) (.bool false) (.string ⟨#[]⟩) (.slice A n cap) (.slice A' n' cap')
  have r0 := hres.c0
  have r1 := hres.c1
  have r2 := hres.c2
  have r3 := hres.c3
  have r4 := hres.c4
  clear hres
  go_wp2
  exact bodyPost_ret (v := .agg #[.int .i64 5, .bool false, .string ⟨#[]⟩, .slice A n cap, .slice A' n' cap']) (by simp [results, Tryz.results14, go_sem, r0, r1, r2, r3, r4]) rfl ⟨rfl, made_end _⟩

/-- a set of blocks that grows with the world -/
structure Zone where
  S : World → Nat → Prop
  lt : ∀ w b, S w b → b < w.heap.size
  up : ∀ w w' b, S w b → Below w.heap.size w w' → S w' b
/-- what was made since there were B blocks -/
def zNew (B : Nat) : Zone where
  S := fun w b => B ≤ b ∧ b < w.heap.size
  lt := fun _ _ h => h.2
  up := fun _ _ _ h hb => ⟨h.1, Nat.lt_of_lt_of_le h.2 hb.size⟩
/-- a value's box, empty -/
def zBox : Obj := .cells #[.int .i64 0, .bool false, .string ⟨#[]⟩, .slice none 0 0, .slice none 0 0] 25
/-- the same, but for empty boxes behind the first C blocks -/
def zAlt (B C : Nat) : Zone where
  S := fun w b => (B ≤ b ∧ b < w.heap.size) ∧ (C ≤ b → w.heap[b]? ≠ some zBox)
  lt := fun _ _ h => h.1.2
  up := fun _ _ _ h hb => ⟨⟨h.1.1, Nat.lt_of_lt_of_le h.1.2 hb.size⟩, fun hc => by rw [hb.block _ h.1.2]; exact h.2 hc⟩
theorem zNew_alloc {B : Nat} {w : World} {o : Obj} (h : B ≤ w.heap.size) : (zNew B).S (w.alloc o) w.heap.size := ⟨h, by simp⟩
theorem zAlt_alloc {B C : Nat} {w : World} {o : Obj} (h : B ≤ w.heap.size) (ho : o ≠ zBox) : (zAlt B C).S (w.alloc o) w.heap.size := ⟨⟨h, by simp⟩, fun _ => by rw [heap_alloc_new]; exact fun e => ho (Option.some.inj e)⟩
/-- a slice of texts, of values, and a value, in a zone -/
def TSV (z : Zone) (m : List ByteArray) (w : World) (v : Value) : Prop := ∃ A cap, v = .slice A m.length cap ∧ TS w (z.S w) A m
def VSV (z : Zone) (l : List VT) (w : World) (v : Value) : Prop := ∃ A cap, v = .slice A l.length cap ∧ VS w (z.S w) A l.length (fun j => l.getD j .leaf)
def VLV (z : Zone) (t : VT) (w : World) (v : Value) : Prop := VAL w (z.S w) t v
theorem TSV.up {z : Zone} {m : List ByteArray} {w w' : World} {v : Value} (h : TSV z m w v) (hb : Below w.heap.size w w') : TSV z m w' v := by
  obtain ⟨A, cap, e, h⟩ := h
  exact ⟨A, cap, e, (h.on (z.lt w) hb).mono (fun b h => z.up _ _ b h hb)⟩
theorem VSV.up {z : Zone} {l : List VT} {w w' : World} {v : Value} (h : VSV z l w v) (hb : Below w.heap.size w w') : VSV z l w' v := by
  obtain ⟨A, cap, e, h⟩ := h
  exact ⟨A, cap, e, (h.on (z.lt w) hb).mono (fun b h => z.up _ _ b h hb)⟩
theorem VLV.up {z : Zone} {t : VT} {w w' : World} {v : Value} (h : VLV z t w v) (hb : Below w.heap.size w w') : VLV z t w' v := (VAL.on h (z.lt w) hb).mono (fun b h => z.up _ _ b h hb)
theorem TSV_new {z : Zone} (l : List ByteArray) (w : World) (xs : Array Value) (ty : TypeId) (cap : Nat) (hx : xs = (l.map Value.string).toArray) (hB : z.S (w.alloc (.cells xs ty)) w.heap.size) : TSV z l (w.alloc (.cells xs ty)) (.slice (some ⟨w.heap.size, 0, none⟩) l.length cap) := by
  refine ⟨_, _, rfl, .inr ⟨w.heap.size, 0, rfl, hB, fun j hj => ?_⟩⟩
  rw [cell_of_row (w.alloc (.cells xs ty)) w.heap.size (0 + j) xs ty (0, 0) (heap_alloc_new w _), Nat.zero_add, hx]
  simp [hj]
theorem VSV_new {z : Zone} (l : List VT) (w : World) (xs : Array Value) (ty : TypeId) (cap : Nat) (hr : VR w (z.S w) xs.toList l.length (fun j => l.getD j .leaf)) (hB : z.S (w.alloc (.cells xs ty)) w.heap.size) : VSV z l (w.alloc (.cells xs ty)) (.slice (some ⟨w.heap.size, 0, none⟩) l.length cap) := by
  have hb : Below w.heap.size w (w.alloc (.cells xs ty)) := (Below.refl _ _).alloc (Nat.le_refl _) _
  refine ⟨_, _, rfl, .inr ⟨w.heap.size, 0, rfl, hB, fun j hj => ?_⟩⟩
  obtain ⟨v0, v1, v2, v3, v4, e0, e1, e2, e3, e4, hv⟩ := hr.2 j hj
  have g : ∀ k u, xs.toList[k]? = some u → (w.alloc (.cells xs ty)).cell? ⟨w.heap.size, 0 + k, none⟩ = some u := fun k u hk => by
    rw [cell_of_row (w.alloc (.cells xs ty)) w.heap.size (0 + k) xs ty (0, 0) (heap_alloc_new w _), Nat.zero_add, ← Array.getElem?_toList]; exact hk
  exact ⟨v0, v1, v2, v3, v4, ⟨g _ _ e0, by rw [Nat.add_assoc]; exact g _ _ e1, by rw [Nat.add_assoc]; exact g _ _ e2, by rw [Nat.add_assoc]; exact g _ _ e3, by rw [Nat.add_assoc]; exact g _ _ e4⟩, VLV.up (z := z) hv hb⟩
/-- behind a store into an empty box -/
theorem VLV.put {B C : Nat} {t : VT} {w : World} {v : Value} (h : VLV (zAlt B C) t w v) {g : Nat} (hg : C ≤ g) (hx : BX w g (.int .i64 0) (.bool false) (.string ⟨#[]⟩) (.slice none 0 0) (.slice none 0 0)) (u0 u1 u2 u3 u4 : Value) : VLV (zNew B) t (five w g u0 u1 u2 u3 u4) v :=
  (VAL.same (five_same w g u0 u1 u2 u3 u4 (fun b hb e => hb.2 (by rw [e]; exact hg) (by rw [e]; exact hx))) h).mono (fun b hb => ⟨hb.1.1, Nat.lt_of_lt_of_eq hb.1.2 (five_size w g _ _ _ _ _).symm⟩)
theorem VLV.mix {B C : Nat} {t : VT} {w : World} {v : Value} (h : VLV (zNew B) t w v) (hC : w.heap.size = C) : VLV (zAlt B C) t w v := VAL.mono (fun b hb => ⟨hb, fun hc => absurd hb.2 (by rw [hC]; omega)⟩) h
theorem not_zBox {xs : Array Value} {ty : TypeId} (h : xs[0]? ≠ some (.int .i64 0)) : Obj.cells xs ty ≠ zBox := by
  intro e
  injection e with e
  subst e
  exact h rfl
theorem VLV.kind_ne {z : Zone} {t : VT} {w : World} {k : Int} {v1 v2 v3 v4 : Value} (h : VLV z t w (.agg #[.int .i64 k, v1, v2, v3, v4])) (ht : t.kind ≠ 0) : k ≠ 0 := by
  obtain ⟨k', i, x, n, c, m, rfl⟩ := VAL.root h
  obtain ⟨A, cap, A', cap', e, -⟩ := h
  injection e with e
  injection e with e
  injection e with a0 e
  injection a0 with _ a0
  subst a0
  exact ht
/-- a value is made, out of what is new -/
def Mk (z : Zone) (t : VT) (w : World) (e : Ending) (w' : World) : Prop := ∃ v, e = .returned v ∧ VLV z t w' v ∧ Below w.heap.size w w'
def txT (s : ByteArray) : VT := .ofL 3 false s [] []
def nmT (s : ByteArray) : VT := .ofL 2 false s [] []
def lsT (l : List VT) : VT := .ofL 4 false .empty l []
def obT (m : List ByteArray) (l : List VT) : VT := .ofL 5 false .empty l m
theorem mText (z : Zone) (s : ByteArray) (w : World) : Calls Tryz.prog 15 #[.string s] w (Mk z (txT s) w) :=
  (mText_any s w).mono fun _ _ h => ⟨_, h.1, VAL.shut (by decide) (.inl rfl) (.inl rfl), h.2⟩
theorem mNumber (z : Zone) (s : ByteArray) (w : World) : Calls Tryz.prog 16 #[.string s] w (Mk z (nmT s) w) :=
  (mNumber_any s w).mono fun _ _ h => ⟨_, h.1, VAL.shut (by decide) (.inl rfl) (.inl rfl), h.2⟩
theorem mList {z : Zone} {l : List VT} {w : World} {v : Value} (h : VSV z l w v) : Calls Tryz.prog 18 #[v] w (Mk z (lsT l) w) := by
  have hu := fun w' => h.up (w' := w')
  obtain ⟨A, cap, rfl, -⟩ := h
  refine (mList_any A l.length cap w).mono fun _ w' g => ⟨_, g.1, ?_, g.2⟩
  obtain ⟨A2, cap2, e, h2⟩ := hu w' g.2
  injection e with e1 e2 e3
  subst e1; subst e3
  exact VAL.shut (by decide) (.inl rfl) h2
theorem mObject {z : Zone} {l : List VT} {m : List ByteArray} {w : World} {v v' : Value} (h' : TSV z m w v') (h : VSV z l w v) : Calls Tryz.prog 14 #[v', v] w (Mk z (obT m l) w) := by
  have hu := fun w' => h.up (w' := w')
  have hu' := fun w' => h'.up (w' := w')
  obtain ⟨A, cap, rfl, -⟩ := h
  obtain ⟨A', cap', rfl, -⟩ := h'
  refine (mObject_any A A' l.length cap m.length cap' w).mono fun _ w' g => ⟨_, g.1, ?_, g.2⟩
  obtain ⟨A2, cap2, e, h2⟩ := hu w' g.2
  obtain ⟨A3, cap3, e', h3⟩ := hu' w' g.2
  injection e with e1 e2 e3
  injection e' with e1' e2' e3'
  subst e1; subst e3; subst e1'; subst e3'
  exact VAL.shut (by decide) h3 h2
theorem VR.cons {w : World} {S : Nat → Prop} {t : VT} {l : List VT} {v0 v1 v2 v3 v4 : Value} {xs : List Value} (hv : VAL w S t (.agg #[v0, v1, v2, v3, v4])) (h : VR w S xs l.length (fun j => l.getD j .leaf)) : VR w S (v0 :: v1 :: v2 :: v3 :: v4 :: xs) (t :: l).length (fun j => (t :: l).getD j .leaf) := by
  refine ⟨by have := h.1; simp [this]; omega, fun j hj => ?_⟩
  cases j with
  | zero => exact ⟨v0, v1, v2, v3, v4, rfl, rfl, rfl, rfl, rfl, hv⟩
  | succ j =>
    obtain ⟨u0, u1, u2, u3, u4, e0, e1, e2, e3, e4, hu⟩ := h.2 j (by simpa using hj)
    refine ⟨u0, u1, u2, u3, u4, ?_, ?_, ?_, ?_, ?_, hu⟩
    · rw [show (j + 1) * 5 = j * 5 + 5 by omega]; exact e0
    · rw [show (j + 1) * 5 + 1 = j * 5 + 1 + 5 by omega]; exact e1
    · rw [show (j + 1) * 5 + 2 = j * 5 + 2 + 5 by omega]; exact e2
    · rw [show (j + 1) * 5 + 3 = j * 5 + 3 + 5 by omega]; exact e3
    · rw [show (j + 1) * 5 + 4 = j * 5 + 4 + 5 by omega]; exact e4
theorem VR.none (w : World) (S : Nat → Prop) : VR w S [] ([] : List VT).length (fun j => ([] : List VT).getD j .leaf) := ⟨rfl, fun j hj => by simp at hj⟩
end Go.Proofs.YtfploakafbnigaaGreatDoor
namespace Go.Proofs.YtfploakafbnigaaGreatDoor
open Go.RowKit Val
set_option linter.unusedVariables false
set_option linter.unusedSimpArgs false
def plT (l c : ByteArray) : VT := obT [⟨#[108, 105, 110, 101]⟩, ⟨#[99, 104, 97, 114, 97, 99, 116, 101, 114]⟩] [nmT l, nmT c]
set_option maxRecDepth 100000 in
set_option maxHeartbeats 4000000 in
theorem mPlace_any (l c : ByteArray) (w : World) : Calls Tryz.prog 17 #[.string l, .string c] w (Mk (zNew w.heap.size) (plT l c) w) := by
  have HB := Lib.hid (Below.refl w.heap.size w)
  go_enter Tryz.func17, Tryz.ntmps17
  go_wp2_with fail
  have Hg := BX.new (w) (.int .i64 0) (.bool false) (.string ⟨#[]⟩) (.slice none 0 0) (.slice none 0 0)
  have hb0 : Below (w).heap.size (w) ((w).alloc (.cells #[.int .i64 0, .bool false, .string ⟨#[]⟩, .slice none 0 0, .slice none 0 0] 25)) := (Below.refl _ _).alloc (Nat.le_refl _) _
  replace HB := Lib.hid (HB.out.trans (hb0.mono HB.out.size))
  have HQ : Hid (w.heap.size + 1 ≤ ((w).alloc (.cells #[.int .i64 0, .bool false, .string ⟨#[]⟩, .slice none 0 0, .slice none 0 0] 25)).heap.size) := Lib.hid (by simp)
  replace Hg := Lib.hid Hg
  clear hb0
  have H5 := TSV_new (z := zNew (w.heap.size + 1)) [⟨#[108, 105, 110, 101]⟩, ⟨#[99, 104, 97, 114, 97, 99, 116, 101, 114]⟩] ((w).alloc (.cells #[.int .i64 0, .bool false, .string ⟨#[]⟩, .slice none 0 0, .slice none 0 0] 25)) #[.string ⟨#[108, 105, 110, 101]⟩, .string ⟨#[99, 104, 97, 114, 97, 99, 116, 101, 114]⟩] 9 2 rfl (zNew_alloc HQ.out)
  rw [show ((w).alloc (.cells #[.int .i64 0, .bool false, .string ⟨#[]⟩, .slice none 0 0, .slice none 0 0] 25)).heap.size = w.heap.size + 1 by simp] at H5
  have hb1 : Below ((w).alloc (.cells #[.int .i64 0, .bool false, .string ⟨#[]⟩, .slice none 0 0, .slice none 0 0] 25)).heap.size ((w).alloc (.cells #[.int .i64 0, .bool false, .string ⟨#[]⟩, .slice none 0 0, .slice none 0 0] 25)) (((w).alloc (.cells #[.int .i64 0, .bool false, .string ⟨#[]⟩, .slice none 0 0, .slice none 0 0] 25)).alloc (.cells #[.string ⟨#[108, 105, 110, 101]⟩, .string ⟨#[99, 104, 97, 114, 97, 99, 116, 101, 114]⟩] 9)) := (Below.refl _ _).alloc (Nat.le_refl _) _
  replace Hg := Lib.hid (Hg.out.on hb1)
  replace HB := Lib.hid (HB.out.trans (hb1.mono HB.out.size))
  replace HQ := Lib.hid (Nat.le_trans HQ.out hb1.size)
  replace H5 := Lib.hid H5
  clear hb1
  generalize (Value.slice (some ⟨w.heap.size + 1, 0, none⟩) 2 2) = s5 at *
  generalize (((w).alloc (.cells #[.int .i64 0, .bool false, .string ⟨#[]⟩, .slice none 0 0, .slice none 0 0] 25)).alloc (.cells #[.string ⟨#[108, 105, 110, 101]⟩, .string ⟨#[99, 104, 97, 114, 97, 99, 116, 101, 114]⟩] 9)) = w1 at *
  refine (mNumber (zNew (w.heap.size + 1)) l w1).mono ?_
  rintro e w2 ⟨v7, rfl, H7, hb⟩
  replace Hg := Lib.hid (Hg.out.on hb)
  replace H5 := Lib.hid (H5.out.up hb)
  replace HB := Lib.hid (HB.out.trans (hb.mono HB.out.size))
  replace HQ := Lib.hid (Nat.le_trans HQ.out hb.size)
  clear hb
  obtain ⟨k7, i7, x7, A7, n7, c7, B7, m7, d7, rfl⟩ := VAL.shape H7
  replace H7 := Lib.hid H7
  go_wp2_with fail
  refine (mNumber (zNew (w.heap.size + 1)) c w2).mono ?_
  rintro e w3 ⟨v9, rfl, H9, hb⟩
  replace Hg := Lib.hid (Hg.out.on hb)
  replace H5 := Lib.hid (H5.out.up hb)
  replace H7 := Lib.hid (H7.out.up hb)
  replace HB := Lib.hid (HB.out.trans (hb.mono HB.out.size))
  replace HQ := Lib.hid (Nat.le_trans HQ.out hb.size)
  clear hb
  obtain ⟨k9, i9, x9, A9, n9, c9, B9, m9, d9, rfl⟩ := VAL.shape H9
  replace H9 := Lib.hid H9
  go_wp2_with fail
  have H10 := VSV_new (z := zNew (w.heap.size + 1)) [(nmT l), (nmT c)] (w3) #[.int .i64 k7, .bool i7, .string x7, .slice A7 n7 c7, .slice B7 m7 d7, .int .i64 k9, .bool i9, .string x9, .slice A9 n9 c9, .slice B9 m9 d9] 25 2 (VR.cons H7.out (VR.cons H9.out (VR.none _ _))) (zNew_alloc HQ.out)
  have hb0 : Below (w3).heap.size (w3) ((w3).alloc (.cells #[.int .i64 k7, .bool i7, .string x7, .slice A7 n7 c7, .slice B7 m7 d7, .int .i64 k9, .bool i9, .string x9, .slice A9 n9 c9, .slice B9 m9 d9] 25)) := (Below.refl _ _).alloc (Nat.le_refl _) _
  replace Hg := Lib.hid (Hg.out.on hb0)
  replace H5 := Lib.hid (H5.out.up hb0)
  replace H7 := Lib.hid (H7.out.up hb0)
  replace H9 := Lib.hid (H9.out.up hb0)
  replace HB := Lib.hid (HB.out.trans (hb0.mono HB.out.size))
  replace HQ := Lib.hid (Nat.le_trans HQ.out hb0.size)
  replace H10 := Lib.hid H10
  clear hb0
  generalize (Value.slice (some ⟨w3.heap.size, 0, none⟩) 2 2) = s10 at *
  generalize ((w3).alloc (.cells #[.int .i64 k7, .bool i7, .string x7, .slice A7 n7 c7, .slice B7 m7 d7, .int .i64 k9, .bool i9, .string x9, .slice A9 n9 c9, .slice B9 m9 d9] 25)) = w4 at *
  refine (mObject H5.out H10.out).mono ?_
  rintro e w5 ⟨v11, rfl, H11, hb⟩
  replace Hg := Lib.hid (Hg.out.on hb)
  replace H5 := Lib.hid (H5.out.up hb)
  replace H7 := Lib.hid (H7.out.up hb)
  replace H9 := Lib.hid (H9.out.up hb)
  replace H10 := Lib.hid (H10.out.up hb)
  replace HB := Lib.hid (HB.out.trans (hb.mono HB.out.size))
  replace HQ := Lib.hid (Nat.le_trans HQ.out hb.size)
  clear hb
  obtain ⟨k11, i11, x11, A11, n11, c11, B11, m11, d11, rfl⟩ := VAL.shape H11
  replace H11 := Lib.hid H11
  clear H10 H5
  have hg := Hg.out
  have hG : w.heap.size ≤ w.heap.size := Nat.le_refl _
  have y0 := hg.c0
  have f0 := hg.fr 0
  have y1 := hg.c1
  have f1 := hg.fr 1
  have y2 := hg.c2
  have f2 := hg.fr 2
  have y3 := hg.c3
  have f3 := hg.fr 3
  have y4 := hg.c4
  have f4 := hg.fr 4
  have hres := hg.put (.int .i64 k11) (.bool i11) (.string x11) (.slice A11 n11 c11) (.slice B11 m11 d11)
  have r0 := hres.c0
  have r1 := hres.c1
  have r2 := hres.c2
  have r3 := hres.c3
  have r4 := hres.c4
  clear hres
  go_wp2
  exact bodyPost_ret (v := .agg #[.int .i64 k11, .bool i11, .string x11, .slice A11 n11 c11, .slice B11 m11 d11]) (by simp [results, Tryz.results17, go_sem, r0, r1, r2, r3, r4]) rfl
    ⟨_, rfl, five_New H11.out (fun b hb => ⟨by have := hb.1; omega, hb.2, by have := hb.1; omega⟩), five_below HB.out w.heap.size _ _ _ _ _ hG⟩
end Go.Proofs.YtfploakafbnigaaGreatDoor
namespace Go.Proofs.YtfploakafbnigaaGreatDoorW.PrintLast
open Go.RowKit
set_option linter.unusedVariables false
set_option linter.unusedSimpArgs false
section
variable {P : Program} {ops : Array Oper} {Q : Exit → Act → World → Prop} {md : Region.Mode} {T : Bool × List (List Nat × List Nat)} {B : List Nat} {O : List Nat}

/-- what each operation gives: its number, its slot, what is told of it -/
abbrev Tolds := List (Nat × Tmp × (World → Value → Prop))
def Tolds.put (L : Tolds) (V : Nat → Value) : List (Nat × Tmp × Value) := L.map fun e => (e.1, e.2.1, V e.1)
/-- all that is listed is told; behind the last one (s) what follows holds -/
def ToldI (Q : Exit → Act → World → Prop) (L : Tolds) (s : Nat) (w0 : World) (a0 : Act) (b : Nat → Bool) (a : Act) (w : World) : Prop :=
  (b s = false → ∃ V : Nat → Value, a = putSel a0 b (L.put V) ∧ Below w0.heap.size w0 w ∧ ∀ e ∈ L, b e.1 = true → e.2.2 w (V e.1)) ∧ (b s = true → Q .normal a w)
def Tolds.up (L : Tolds) : Prop := ∀ e ∈ L, ∀ w w' v, e.2.2 w v → Below w.heap.size w w' → e.2.2 w' v
/-- each number once, each slot once, none of them s -/
def Tolds.ok (L : Tolds) (s : Nat) : Bool := decide (L.map (·.1)).Nodup && decide (L.map (·.2.1)).Nodup && (L.map (·.1)).all fun i => !(i == s)
theorem told_get {L : Tolds} {s : Nat} {V : Nat → Value} {b : Nat → Bool} {a0 a : Act} (k : Nat) {i : Nat} {t : Tmp} {F : World → Value → Prop} (hok : L.ok s = true) (hL : L[k]? = some (i, t, F)) (ha : a = putSel a0 b (L.put V)) (hb : b i = true) (ht : Nat.ble (t + 1) a0.tmps.size = true) : a.tmps[t]? = some (V i) := by
  subst ha
  unfold Tolds.ok at hok
  simp only [Bool.and_eq_true, decide_eq_true_eq] at hok
  refine putSel_on (e := (i, t, V i)) k (by simp [Tolds.put, hL]) ?_ hb ht
  rw [List.all_eq_true]
  intro x hx
  obtain ⟨m, hm, rfl⟩ := List.getElem_of_mem hx
  have hm2 : k + 1 + m < L.length := by simp [Tolds.put] at hm; omega
  have hk : k < L.length := (List.getElem?_eq_some_iff.1 hL).1
  have hkt : (L.map (·.2.1))[k]? = some t := by simp [hL]
  have hmt : (L.map (·.2.1))[k + 1 + m]? = some (L[k + 1 + m].2.1) := by simp [hm2]
  have hne : L[k + 1 + m].2.1 ≠ t := by
    intro e
    have := (List.getElem?_inj (i := k) (j := k + 1 + m) (by simpa using hk) hok.1.2).1 (by rw [hkt, hmt, e])
    omega
  simpa [Tolds.put] using hne
theorem told_set {L : Tolds} {s : Nat} (V : Nat → Value) (k : Nat) {i : Nat} {t : Tmp} {F : World → Value → Prop} (hok : L.ok s = true) (hL : L[k]? = some (i, t, F)) (v : Value) : (L.put V).set k (i, t, v) = L.put (fun j => if j = i then v else V j) := by
  unfold Tolds.ok at hok
  simp only [Bool.and_eq_true, decide_eq_true_eq] at hok
  have hk : k < L.length := (List.getElem?_eq_some_iff.1 hL).1
  apply List.ext_getElem?
  intro m
  by_cases hmk : k = m
  · subst hmk
    rw [List.getElem?_set_self (by simpa [Tolds.put] using hk)]
    simp [Tolds.put, hL]
  · rw [List.getElem?_set_ne hmk]
    simp only [Tolds.put, List.getElem?_map]
    cases hm : L[m]? with
    | none => rfl
    | some e =>
      have hne : e.1 ≠ i := by
        intro e2
        have := (List.getElem?_inj (i := k) (j := m) (l := L.map (·.1)) (by simpa using hk) hok.1.1).1 (by simp [hL, hm, e2])
        exact hmk this
      simp [hne]
/-- one step: the operation at place k of the list -/
theorem told_step {L : Tolds} {s : Nat} {w0 : World} {a0 : Act} (k : Nat) {i : Nat} {t : Tmp} {F : World → Value → Prop} (hok : L.ok s = true) (hup : L.up) (hL : L[k]? = some (i, t, F)) (hs : (O.contains s && (B.getD s 0).testBit i) = true)
    (h : ∀ b V a w, a = putSel a0 b (L.put V) → Below w0.heap.size w0 w → (∀ e ∈ L, b e.1 = true → e.2.2 w (V e.1)) → (∀ j, (O.contains j && (B.getD i 0).testBit j) = true → b j = true) →
      ∃ oi, ops[i]? = some oi ∧ oi.dst = some t ∧ ∀ K : Act → World → Prop, (∀ v w', Below w.heap.size w w' → F w' v → K (a.put (some t) v) w') → if Region.wanted oi (yielded ops a.tmps) = true then Oper.wp P oi a w K Q else K (a.put (some t) undef) w) :
    StepAt P ops Q B O (ToldI Q L s w0 a0) i := by
  intro b a w hI hb hon hoff
  have hbs := hoff s hs
  obtain ⟨V, ha, hB, hF⟩ := hI.1 hbs
  obtain ⟨oi, ho, hd, hK⟩ := h b V a w ha hB hF hon
  refine ⟨oi, ho, fun K hKs => ?_⟩
  have := hK K (fun v w' hb' hv => hKs _ _ ?_)
  · rw [hd]; exact this
  have hok' := hok
  unfold Tolds.ok at hok'
  simp only [Bool.and_eq_true, decide_eq_true_eq] at hok'
  have hk : k < L.length := (List.getElem?_eq_some_iff.1 hL).1
  have hsi : s ≠ i := by
    have h3 := List.all_eq_true.1 hok'.2 i (List.mem_map.2 ⟨(i, t, F), List.mem_of_getElem? hL, rfl⟩)
    intro e
    rw [e] at h3
    simp at h3
  refine ⟨fun _ => ⟨fun j => if j = i then v else V j, ?_, hB.trans (hb'.mono hB.size), ?_⟩, fun h' => ?_⟩
  · subst ha
    refine (putSel_upk (v0 := V i) k hb (by simp [Tolds.put, hL]) (told_set V k hok hL v) ?_)
    have hne : ∀ m, m ≠ k → ∀ e, L[m]? = some e → e.1 ≠ i ∧ e.2.1 ≠ t := by
      intro m hm e he
      refine ⟨fun e2 => hm ?_, fun e2 => hm ?_⟩
      · exact ((List.getElem?_inj (i := k) (j := m) (l := L.map (·.1)) (by simpa using hk) hok'.1.1).1 (by simp [hL, he, e2])).symm
      · exact ((List.getElem?_inj (i := k) (j := m) (l := L.map (·.2.1)) (by simpa using hk) hok'.1.2).1 (by simp [hL, he, e2])).symm
    rw [List.all_append, Bool.and_eq_true]
    constructor
    · rw [List.all_eq_true]
      intro x hx
      obtain ⟨m, hm, rfl⟩ := List.getElem_of_mem hx
      have hm1 : m < k ∧ m < L.length := by simp [Tolds.put] at hm; omega
      have := hne m (by omega) L[m] (List.getElem?_eq_getElem hm1.2)
      simp [Tolds.put, this.1, this.2]
    · rw [List.all_eq_true]
      intro x hx
      obtain ⟨m, hm, rfl⟩ := List.getElem_of_mem hx
      have hm1 : k + 1 + m < L.length := by simp [Tolds.put] at hm; omega
      have := hne (k + 1 + m) (by omega) L[k + 1 + m] (List.getElem?_eq_getElem hm1)
      simp [Tolds.put, this.1, this.2]
  · intro e he hbe
    by_cases hei : e.1 = i
    · obtain ⟨m, hm⟩ := List.mem_iff_getElem?.1 he
      have hmk : k = m := (List.getElem?_inj (i := k) (j := m) (l := L.map (·.1)) (by simpa using hk) hok'.1.1).1 (by simp [hL, hm, hei])
      subst hmk
      rw [hL] at hm
      injection hm with hm
      subst hm
      simpa using hv
    · simp only [if_neg hei]
      rw [up_ne hei] at hbe
      exact hup e he _ _ _ (hF e he hbe) hb'
  · rw [up_ne hsi, hbs] at h'
    cases h'
/-- the last step: it waits for all -/
theorem told_last {L : Tolds} {s : Nat} {w0 : World} {a0 : Act} (hall : ∀ e ∈ L, (O.contains e.1 && (B.getD s 0).testBit e.1) = true)
    (h : ∀ V a w, a = putSel a0 (fun _ => true) (L.put V) → Below w0.heap.size w0 w → (∀ e ∈ L, e.2.2 w (V e.1)) →
      ∃ oi, ops[s]? = some oi ∧ oi.dst = none ∧ ∀ K : Act → World → Prop, (∀ a' w', Q .normal a' w' → K a' w') → if Region.wanted oi (yielded ops a.tmps) = true then Oper.wp P oi a w K Q else K (a.put none undef) w) :
    StepAt P ops Q B O (ToldI Q L s w0 a0) s := by
  intro b a w hI hb hon hoff
  obtain ⟨V, ha, hB, hF⟩ := hI.1 hb
  have hbt : ∀ e ∈ L, b e.1 = true := fun e he => hon _ (hall e he)
  have ha2 : a = putSel a0 (fun _ => true) (L.put V) := by
    rw [ha]
    have : ∀ (M : List (Nat × Tmp × Value)) (a0 : Act), (∀ e ∈ M, b e.1 = true) → putSel a0 b M = putSel a0 (fun _ => true) M := by
      intro M
      induction M with
      | nil => intro a0 _; rfl
      | cons e M ih =>
        intro a0 hM
        unfold putSel
        rw [hM e List.mem_cons_self]
        exact ih _ (fun x hx => hM x (List.mem_cons_of_mem _ hx))
    refine this _ _ (fun e he => ?_)
    obtain ⟨x, hx, rfl⟩ := List.mem_map.1 he
    exact hbt x hx
  obtain ⟨oi, ho, hd, hK⟩ := h V a w ha2 hB (fun e he => hF e he (hbt e he))
  refine ⟨oi, ho, fun K hKs => ?_⟩
  rw [hd]
  exact hK K (fun a' w' hQ => hKs _ _ ⟨(fun h' => by rw [up_self] at h'; cases h'), fun _ => hQ⟩)
theorem told_end {L : Tolds} {s : Nat} {w0 : World} {a0 : Act} (hs : O.contains s = true) : ∀ b a w, (∀ j, O.contains j = true → b j = true) → ToldI Q L s w0 a0 b a w → Q .normal a w := fun b a w hb h => h.2 (hb s hs)
theorem told_begin {L : Tolds} {s : Nat} {w0 : World} {a0 : Act} : ToldI Q L s w0 a0 (fun _ => false) a0 w0 := by
  refine ⟨fun _ => ⟨fun _ => undef, ?_, Below.refl _ _, (fun _ _ h => by simp at h)⟩, (fun h => by simp at h)⟩
  have : ∀ (M : List (Nat × Tmp × Value)) (a0 : Act), a0 = putSel a0 (fun _ => false) M := by
    intro M
    induction M with
    | nil => intro a0; rfl
    | cons e M ih => intro a0; unfold putSel; simp only [Bool.false_eq_true, if_false]; exact ih a0
  exact this _ _
theorem tup_nil : Tolds.up [] := fun _ h => by cases h
theorem tup_cons {i : Nat} {t : Tmp} {F : World → Value → Prop} {L : Tolds} (h : ∀ w w' v, F w v → Below w.heap.size w w' → F w' v) (hs : Tolds.up L) : Tolds.up ((i, t, F) :: L) := fun e he => by
  rcases List.mem_cons.1 he with rfl | he
  · exact h
  · exact hs e he
theorem told_fact {L : Tolds} {V : Nat → Value} {b : Nat → Bool} {w : World} (k : Nat) {i : Nat} {t : Tmp} {F : World → Value → Prop} (hF : ∀ e ∈ L, b e.1 = true → e.2.2 w (V e.1)) (hL : L[k]? = some (i, t, F)) (hb : b i = true) : F w (V i) := hF _ (List.mem_of_getElem? hL) hb
end
end Go.Proofs.YtfploakafbnigaaGreatDoorW.PrintLast
namespace Go.Proofs.YtfploakafbnigaaGreatDoor
open Go.RowKit Val YtfploakafbnigaaGreatDoorW.PrintLast
set_option linter.unusedVariables false
set_option linter.unusedSimpArgs false
theorem mPlace {B : Nat} {w : World} (h : B ≤ w.heap.size) (l c : ByteArray) : Calls Tryz.prog 17 #[.string l, .string c] w (Mk (zNew B) (plT l c) w) :=
  (mPlace_any l c w).mono fun _ _ h' => by
    obtain ⟨v, e, hv, hb⟩ := h'
    exact ⟨v, e, VAL.mono (fun b hb => ⟨Nat.le_trans h hb.1, hb.2⟩) hv, hb⟩
def openT : VT := obT [⟨#[116, 101, 120, 116, 68, 111, 99, 117, 109, 101, 110, 116]⟩] [obT [⟨#[117, 114, 105]⟩, ⟨#[108, 97, 110, 103, 117, 97, 103, 101, 73, 100]⟩, ⟨#[118, 101, 114, 115, 105, 111, 110]⟩, ⟨#[116, 101, 120, 116]⟩] [txT ⟨#[97]⟩, txT ⟨#[109]⟩, nmT ⟨#[51]⟩, txT ⟨#[120]⟩]]
def cutT : VT := obT [⟨#[114, 97, 110, 103, 101]⟩, ⟨#[116, 101, 120, 116]⟩] [obT [⟨#[115, 116, 97, 114, 116]⟩, ⟨#[101, 110, 100]⟩] [plT ⟨#[48]⟩ ⟨#[49]⟩, plT ⟨#[50]⟩ ⟨#[48]⟩], txT ⟨#[]⟩]
def BXV (B : Nat) (w : World) (v : Value) : Prop := ∃ g, v = .pointer (some ⟨g, 0, none⟩) ∧ B ≤ g ∧ BX w g (.int .i64 0) (.bool false) (.string ⟨#[]⟩) (.slice none 0 0) (.slice none 0 0)
theorem BXV.up {B : Nat} {w w' : World} {v : Value} (h : BXV B w v) (hb : Below w.heap.size w w') : BXV B w' v := by
  obtain ⟨g, e, h1, h2⟩ := h
  exact ⟨g, e, h1, h2.on hb⟩
theorem BXV_new {B : Nat} (w : World) (hB : B ≤ w.heap.size) : BXV B (w.alloc (.cells #[.int .i64 0, .bool false, .string ⟨#[]⟩, .slice none 0 0, .slice none 0 0] 25)) (.pointer (some ⟨w.heap.size, 0, none⟩)) := ⟨_, rfl, hB, BX.new _ _ _ _ _ _⟩
def awake3 (z : Zone) (C : Nat) : Tolds := [(0, 41, TSV z [⟨#[116, 101, 120, 116, 68, 111, 99, 117, 109, 101, 110, 116]⟩, ⟨#[99, 111, 110, 116, 101, 110, 116, 67, 104, 97, 110, 103, 101, 115]⟩]), (1, 42, TSV z [⟨#[117, 114, 105]⟩, ⟨#[118, 101, 114, 115, 105, 111, 110]⟩]), (2, 43, VLV z (txT ⟨#[97]⟩)), (3, 44, VLV z (nmT ⟨#[52]⟩)), (4, 45, VSV z [(txT ⟨#[97]⟩), (nmT ⟨#[52]⟩)]), (5, 46, VLV z (obT [⟨#[117, 114, 105]⟩, ⟨#[118, 101, 114, 115, 105, 111, 110]⟩] [(txT ⟨#[97]⟩), (nmT ⟨#[52]⟩)])), (6, 47, TSV z [⟨#[116, 101, 120, 116]⟩]), (7, 48, VLV z (txT ⟨#[121]⟩)), (8, 49, VSV z [(txT ⟨#[121]⟩)]), (9, 50, VLV z (obT [⟨#[116, 101, 120, 116]⟩] [(txT ⟨#[121]⟩)])), (10, 51, VLV z cutT), (11, 52, VSV z [(obT [⟨#[116, 101, 120, 116]⟩] [(txT ⟨#[121]⟩)]), cutT]), (12, 53, VLV z (lsT [(obT [⟨#[116, 101, 120, 116]⟩] [(txT ⟨#[121]⟩)]), cutT])), (13, 54, VSV z [(obT [⟨#[117, 114, 105]⟩, ⟨#[118, 101, 114, 115, 105, 111, 110]⟩] [(txT ⟨#[97]⟩), (nmT ⟨#[52]⟩)]), (lsT [(obT [⟨#[116, 101, 120, 116]⟩] [(txT ⟨#[121]⟩)]), cutT])]), (14, 55, VLV z (obT [⟨#[116, 101, 120, 116, 68, 111, 99, 117, 109, 101, 110, 116]⟩, ⟨#[99, 111, 110, 116, 101, 110, 116, 67, 104, 97, 110, 103, 101, 115]⟩] [(obT [⟨#[117, 114, 105]⟩, ⟨#[118, 101, 114, 115, 105, 111, 110]⟩] [(txT ⟨#[97]⟩), (nmT ⟨#[52]⟩)]), (lsT [(obT [⟨#[116, 101, 120, 116]⟩] [(txT ⟨#[121]⟩)]), cutT])])), (15, 3, BXV C)]
theorem awake3_ok (z : Zone) (C : Nat) : (awake3 z C).ok 16 = true := by kernel_rfl
theorem awake3_up (z : Zone) (C : Nat) : (awake3 z C).up := (tup_cons (fun _ _ _ h hb => TSV.up h hb) (tup_cons (fun _ _ _ h hb => TSV.up h hb) (tup_cons (fun _ _ _ h hb => VLV.up h hb) (tup_cons (fun _ _ _ h hb => VLV.up h hb) (tup_cons (fun _ _ _ h hb => VSV.up h hb) (tup_cons (fun _ _ _ h hb => VLV.up h hb) (tup_cons (fun _ _ _ h hb => TSV.up h hb) (tup_cons (fun _ _ _ h hb => VLV.up h hb) (tup_cons (fun _ _ _ h hb => VSV.up h hb) (tup_cons (fun _ _ _ h hb => VLV.up h hb) (tup_cons (fun _ _ _ h hb => VLV.up h hb) (tup_cons (fun _ _ _ h hb => VSV.up h hb) (tup_cons (fun _ _ _ h hb => VLV.up h hb) (tup_cons (fun _ _ _ h hb => VSV.up h hb) (tup_cons (fun _ _ _ h hb => VLV.up h hb) (tup_cons (fun _ _ _ h hb => BXV.up h hb) tup_nil))))))))))))))))
def changeT : VT := (obT [⟨#[116, 101, 120, 116, 68, 111, 99, 117, 109, 101, 110, 116]⟩, ⟨#[99, 111, 110, 116, 101, 110, 116, 67, 104, 97, 110, 103, 101, 115]⟩] [(obT [⟨#[117, 114, 105]⟩, ⟨#[118, 101, 114, 115, 105, 111, 110]⟩] [(txT ⟨#[97]⟩), (nmT ⟨#[52]⟩)]), (lsT [(obT [⟨#[116, 101, 120, 116]⟩] [(txT ⟨#[121]⟩)]), cutT])])
theorem VSV_nil (z : Zone) (w : World) : VSV z [] w (.slice none 0 0) := ⟨none, 0, rfl, .inl rfl⟩
def EZ (B : Nat) (l : List VT.Ed) (A : Option Addr) (w : World) : Prop := ES w ((zNew B).S w) A l
theorem EZ.up {B : Nat} {l : List VT.Ed} {A : Option Addr} {w w' : World} (h : EZ B l A w) (hb : Below w.heap.size w w') : EZ B l A w' := ES.same h (below_same hb (fun _ h => h.2)) (fun b h => (zNew B).up _ _ b h hb)
theorem changeT_lit {B : Nat} {w w' : World} {e : Ending} (hB : B ≤ w.heap.size) (h : ChangeP changeT w e w') :
    ∃ A cap, e = .returned (.tuple #[.string ⟨#[97]⟩, .int .i64 4, .slice A 2 cap, .int .i64 0]) ∧ EZ B [⟨true, 0, 0, 0, 0, ⟨#[121]⟩⟩, ⟨false, 0, 1, 2, 0, ⟨#[]⟩⟩] A w' ∧ Below w.heap.size w w' := by
  obtain ⟨hb, h | h⟩ := h
  · obtain ⟨-, A, cap, e1, h⟩ := h
    have e2 : changeT.chg.edits changeT.chg.n = [⟨true, 0, 0, 0, 0, ⟨#[121]⟩⟩, ⟨false, 0, 1, 2, 0, ⟨#[]⟩⟩] := by kernel_rfl
    have e3 : changeT.uri = ⟨#[97]⟩ := by kernel_rfl
    have e4 : changeT.doc.wholeN VT.versionN = 4 := by kernel_rfl
    rw [e2, e3, e4] at e1
    rw [e2] at h
    exact ⟨A, cap, e1, ES.same h (fun _ _ => rfl) (fun b h => ⟨Nat.le_trans hB h.1, h.2⟩), hb⟩
  · have : changeT.changeOk = true := by kernel_rfl
    rw [h.1] at this
    cases this
theorem EZ.two {B : Nat} {l0 l1 : VT.Ed} {A : Option Addr} {w : World} (h : EZ B [l0, l1] A w) : ∃ b o, A = some ⟨b, o, none⟩ ∧ w.cell? ⟨b, o, none⟩ = some (.bool l0.whole) ∧ w.cell? ⟨b, o + 1, none⟩ = some (.int .i64 l0.a) ∧ w.cell? ⟨b, o + 2, none⟩ = some (.int .i64 l0.b) ∧ w.cell? ⟨b, o + 3, none⟩ = some (.int .i64 l0.c) ∧ w.cell? ⟨b, o + 4, none⟩ = some (.int .i64 l0.d) ∧ w.cell? ⟨b, o + 5, none⟩ = some (.string l0.text) ∧
    w.cell? ⟨b, o + 6, none⟩ = some (.bool l1.whole) ∧ w.cell? ⟨b, o + 7, none⟩ = some (.int .i64 l1.a) ∧ w.cell? ⟨b, o + 8, none⟩ = some (.int .i64 l1.b) ∧ w.cell? ⟨b, o + 9, none⟩ = some (.int .i64 l1.c) ∧ w.cell? ⟨b, o + 10, none⟩ = some (.int .i64 l1.d) ∧ w.cell? ⟨b, o + 11, none⟩ = some (.string l1.text) := by
  rcases h with h | ⟨b, o, e, -, hc⟩
  · cases h
  · obtain ⟨a0, a1, a2, a3, a4, a5⟩ := hc 0 (by simp)
    obtain ⟨b0, b1, b2, b3, b4, b5⟩ := hc 1 (by simp)
    exact ⟨b, o, e, a0, a1, a2, a3, a4, a5, b0, b1, b2, b3, b4, b5⟩
def cancelT : VT := obT [⟨#[105, 100]⟩] [nmT ⟨#[55]⟩]
theorem cancelT_lit {w w' : World} {e : Ending} (h : CancelP cancelT w e w') : ∃ A n c A' n' c', e = .returned (.tuple #[.agg #[.int .i64 2, .bool false, .string ⟨#[55]⟩, .slice A n c, .slice A' n' c'], .int .i64 0]) ∧ Below w.heap.size w w' := by
  obtain ⟨v, e1, hv, hb⟩ := h
  have e2 : cancelT.cancelOk = true := by kernel_rfl
  rw [e2] at e1 hv
  simp only [if_true] at e1 hv
  obtain ⟨A, n, c, A', n', c', rfl⟩ := hv.parts
  exact ⟨A, n, c, A', n', c', e1, hb⟩

set_option maxRecDepth 100000 in
set_option maxHeartbeats 8000000 in
theorem awake_any (w : World) (hM : ML w) : Calls Tryz.prog 24 #[] w fun e w' => e = .returned (.bool true) ∧ Below w.heap.size w w' := by
  have HB := Lib.hid (Below.refl w.heap.size w)
  have HQ : Hid (w.heap.size ≤ w.heap.size) := Lib.hid (Nat.le_refl _)
  have HM := Lib.hid hM
  clear hM
  go_enter Tryz.func24, Tryz.ntmps24
  go_wp2_with fail
  have H22 := TSV_new (z := zNew (w.heap.size)) [⟨#[116, 101, 120, 116, 68, 111, 99, 117, 109, 101, 110, 116]⟩] (w) #[.string ⟨#[116, 101, 120, 116, 68, 111, 99, 117, 109, 101, 110, 116]⟩] 9 1 rfl (zNew_alloc HQ.out)
  have hb0 : Below (w).heap.size (w) ((w).alloc (.cells #[.string ⟨#[116, 101, 120, 116, 68, 111, 99, 117, 109, 101, 110, 116]⟩] 9)) := (Below.refl _ _).alloc (Nat.le_refl _) _
  replace HM := Lib.hid (HM.out.on hb0)
  replace HB := Lib.hid (HB.out.trans (hb0.mono HB.out.size))
  replace HQ := Lib.hid (Nat.le_trans HQ.out hb0.size)
  replace H22 := Lib.hid H22
  clear hb0
  have H23 := TSV_new (z := zNew (w.heap.size)) [⟨#[117, 114, 105]⟩, ⟨#[108, 97, 110, 103, 117, 97, 103, 101, 73, 100]⟩, ⟨#[118, 101, 114, 115, 105, 111, 110]⟩, ⟨#[116, 101, 120, 116]⟩] ((w).alloc (.cells #[.string ⟨#[116, 101, 120, 116, 68, 111, 99, 117, 109, 101, 110, 116]⟩] 9)) #[.string ⟨#[117, 114, 105]⟩, .string ⟨#[108, 97, 110, 103, 117, 97, 103, 101, 73, 100]⟩, .string ⟨#[118, 101, 114, 115, 105, 111, 110]⟩, .string ⟨#[116, 101, 120, 116]⟩] 9 4 rfl (zNew_alloc HQ.out)
  rw [show ((w).alloc (.cells #[.string ⟨#[116, 101, 120, 116, 68, 111, 99, 117, 109, 101, 110, 116]⟩] 9)).heap.size = w.heap.size + 1 by simp] at H23
  have hb1 : Below ((w).alloc (.cells #[.string ⟨#[116, 101, 120, 116, 68, 111, 99, 117, 109, 101, 110, 116]⟩] 9)).heap.size ((w).alloc (.cells #[.string ⟨#[116, 101, 120, 116, 68, 111, 99, 117, 109, 101, 110, 116]⟩] 9)) (((w).alloc (.cells #[.string ⟨#[116, 101, 120, 116, 68, 111, 99, 117, 109, 101, 110, 116]⟩] 9)).alloc (.cells #[.string ⟨#[117, 114, 105]⟩, .string ⟨#[108, 97, 110, 103, 117, 97, 103, 101, 73, 100]⟩, .string ⟨#[118, 101, 114, 115, 105, 111, 110]⟩, .string ⟨#[116, 101, 120, 116]⟩] 9)) := (Below.refl _ _).alloc (Nat.le_refl _) _
  replace HM := Lib.hid (HM.out.on hb1)
  replace H22 := Lib.hid (H22.out.up hb1)
  replace HB := Lib.hid (HB.out.trans (hb1.mono HB.out.size))
  replace HQ := Lib.hid (Nat.le_trans HQ.out hb1.size)
  replace H23 := Lib.hid H23
  clear hb1
  generalize (Value.slice (some ⟨w.heap.size, 0, none⟩) 1 1) = s22 at *
  generalize (Value.slice (some ⟨w.heap.size + 1, 0, none⟩) 4 4) = s23 at *
  generalize (((w).alloc (.cells #[.string ⟨#[116, 101, 120, 116, 68, 111, 99, 117, 109, 101, 110, 116]⟩] 9)).alloc (.cells #[.string ⟨#[117, 114, 105]⟩, .string ⟨#[108, 97, 110, 103, 117, 97, 103, 101, 73, 100]⟩, .string ⟨#[118, 101, 114, 115, 105, 111, 110]⟩, .string ⟨#[116, 101, 120, 116]⟩] 9)) = w1 at *
  refine (mText (zNew (w.heap.size)) ⟨#[97]⟩ w1).mono ?_
  rintro e w2 ⟨v24, rfl, H24, hb⟩
  replace HM := Lib.hid (HM.out.on hb)
  replace H22 := Lib.hid (H22.out.up hb)
  replace H23 := Lib.hid (H23.out.up hb)
  replace HB := Lib.hid (HB.out.trans (hb.mono HB.out.size))
  replace HQ := Lib.hid (Nat.le_trans HQ.out hb.size)
  clear hb
  obtain ⟨k24, i24, x24, A24, n24, c24, B24, m24, d24, rfl⟩ := VAL.shape H24
  replace H24 := Lib.hid H24
  go_wp2_with fail
  refine (mText (zNew (w.heap.size)) ⟨#[109]⟩ w2).mono ?_
  rintro e w3 ⟨v25, rfl, H25, hb⟩
  replace HM := Lib.hid (HM.out.on hb)
  replace H22 := Lib.hid (H22.out.up hb)
  replace H23 := Lib.hid (H23.out.up hb)
  replace H24 := Lib.hid (H24.out.up hb)
  replace HB := Lib.hid (HB.out.trans (hb.mono HB.out.size))
  replace HQ := Lib.hid (Nat.le_trans HQ.out hb.size)
  clear hb
  obtain ⟨k25, i25, x25, A25, n25, c25, B25, m25, d25, rfl⟩ := VAL.shape H25
  replace H25 := Lib.hid H25
  go_wp2_with fail
  refine (mNumber (zNew (w.heap.size)) ⟨#[51]⟩ w3).mono ?_
  rintro e w4 ⟨v26, rfl, H26, hb⟩
  replace HM := Lib.hid (HM.out.on hb)
  replace H22 := Lib.hid (H22.out.up hb)
  replace H23 := Lib.hid (H23.out.up hb)
  replace H24 := Lib.hid (H24.out.up hb)
  replace H25 := Lib.hid (H25.out.up hb)
  replace HB := Lib.hid (HB.out.trans (hb.mono HB.out.size))
  replace HQ := Lib.hid (Nat.le_trans HQ.out hb.size)
  clear hb
  obtain ⟨k26, i26, x26, A26, n26, c26, B26, m26, d26, rfl⟩ := VAL.shape H26
  replace H26 := Lib.hid H26
  go_wp2_with fail
  refine (mText (zNew (w.heap.size)) ⟨#[120]⟩ w4).mono ?_
  rintro e w5 ⟨v27, rfl, H27, hb⟩
  replace HM := Lib.hid (HM.out.on hb)
  replace H22 := Lib.hid (H22.out.up hb)
  replace H23 := Lib.hid (H23.out.up hb)
  replace H24 := Lib.hid (H24.out.up hb)
  replace H25 := Lib.hid (H25.out.up hb)
  replace H26 := Lib.hid (H26.out.up hb)
  replace HB := Lib.hid (HB.out.trans (hb.mono HB.out.size))
  replace HQ := Lib.hid (Nat.le_trans HQ.out hb.size)
  clear hb
  obtain ⟨k27, i27, x27, A27, n27, c27, B27, m27, d27, rfl⟩ := VAL.shape H27
  replace H27 := Lib.hid H27
  go_wp2_with fail
  have H28 := VSV_new (z := zNew (w.heap.size)) [(txT ⟨#[97]⟩), (txT ⟨#[109]⟩), (nmT ⟨#[51]⟩), (txT ⟨#[120]⟩)] (w5) #[.int .i64 k24, .bool i24, .string x24, .slice A24 n24 c24, .slice B24 m24 d24, .int .i64 k25, .bool i25, .string x25, .slice A25 n25 c25, .slice B25 m25 d25, .int .i64 k26, .bool i26, .string x26, .slice A26 n26 c26, .slice B26 m26 d26, .int .i64 k27, .bool i27, .string x27, .slice A27 n27 c27, .slice B27 m27 d27] 25 4 (VR.cons H24.out (VR.cons H25.out (VR.cons H26.out (VR.cons H27.out (VR.none _ _))))) (zNew_alloc HQ.out)
  have hb0 : Below (w5).heap.size (w5) ((w5).alloc (.cells #[.int .i64 k24, .bool i24, .string x24, .slice A24 n24 c24, .slice B24 m24 d24, .int .i64 k25, .bool i25, .string x25, .slice A25 n25 c25, .slice B25 m25 d25, .int .i64 k26, .bool i26, .string x26, .slice A26 n26 c26, .slice B26 m26 d26, .int .i64 k27, .bool i27, .string x27, .slice A27 n27 c27, .slice B27 m27 d27] 25)) := (Below.refl _ _).alloc (Nat.le_refl _) _
  replace HM := Lib.hid (HM.out.on hb0)
  replace H22 := Lib.hid (H22.out.up hb0)
  replace H23 := Lib.hid (H23.out.up hb0)
  replace H24 := Lib.hid (H24.out.up hb0)
  replace H25 := Lib.hid (H25.out.up hb0)
  replace H26 := Lib.hid (H26.out.up hb0)
  replace H27 := Lib.hid (H27.out.up hb0)
  replace HB := Lib.hid (HB.out.trans (hb0.mono HB.out.size))
  replace HQ := Lib.hid (Nat.le_trans HQ.out hb0.size)
  replace H28 := Lib.hid H28
  clear hb0
  generalize (Value.slice (some ⟨w5.heap.size, 0, none⟩) 4 4) = s28 at *
  generalize ((w5).alloc (.cells #[.int .i64 k24, .bool i24, .string x24, .slice A24 n24 c24, .slice B24 m24 d24, .int .i64 k25, .bool i25, .string x25, .slice A25 n25 c25, .slice B25 m25 d25, .int .i64 k26, .bool i26, .string x26, .slice A26 n26 c26, .slice B26 m26 d26, .int .i64 k27, .bool i27, .string x27, .slice A27 n27 c27, .slice B27 m27 d27] 25)) = w6 at *
  refine (mObject H23.out H28.out).mono ?_
  rintro e w7 ⟨v29, rfl, H29, hb⟩
  replace HM := Lib.hid (HM.out.on hb)
  replace H22 := Lib.hid (H22.out.up hb)
  replace H23 := Lib.hid (H23.out.up hb)
  replace H24 := Lib.hid (H24.out.up hb)
  replace H25 := Lib.hid (H25.out.up hb)
  replace H26 := Lib.hid (H26.out.up hb)
  replace H27 := Lib.hid (H27.out.up hb)
  replace H28 := Lib.hid (H28.out.up hb)
  replace HB := Lib.hid (HB.out.trans (hb.mono HB.out.size))
  replace HQ := Lib.hid (Nat.le_trans HQ.out hb.size)
  clear hb
  obtain ⟨k29, i29, x29, A29, n29, c29, B29, m29, d29, rfl⟩ := VAL.shape H29
  replace H29 := Lib.hid H29
  clear H28 H23
  clear H24 H25 H26 H27
  go_wp2_with fail
  have H30 := VSV_new (z := zNew (w.heap.size)) [(obT [⟨#[117, 114, 105]⟩, ⟨#[108, 97, 110, 103, 117, 97, 103, 101, 73, 100]⟩, ⟨#[118, 101, 114, 115, 105, 111, 110]⟩, ⟨#[116, 101, 120, 116]⟩] [(txT ⟨#[97]⟩), (txT ⟨#[109]⟩), (nmT ⟨#[51]⟩), (txT ⟨#[120]⟩)])] (w7) #[.int .i64 k29, .bool i29, .string x29, .slice A29 n29 c29, .slice B29 m29 d29] 25 1 (VR.cons H29.out (VR.none _ _)) (zNew_alloc HQ.out)
  have hb0 : Below (w7).heap.size (w7) ((w7).alloc (.cells #[.int .i64 k29, .bool i29, .string x29, .slice A29 n29 c29, .slice B29 m29 d29] 25)) := (Below.refl _ _).alloc (Nat.le_refl _) _
  replace HM := Lib.hid (HM.out.on hb0)
  replace H22 := Lib.hid (H22.out.up hb0)
  replace H29 := Lib.hid (H29.out.up hb0)
  replace HB := Lib.hid (HB.out.trans (hb0.mono HB.out.size))
  replace HQ := Lib.hid (Nat.le_trans HQ.out hb0.size)
  replace H30 := Lib.hid H30
  clear hb0
  generalize (Value.slice (some ⟨w7.heap.size, 0, none⟩) 1 1) = s30 at *
  generalize ((w7).alloc (.cells #[.int .i64 k29, .bool i29, .string x29, .slice A29 n29 c29, .slice B29 m29 d29] 25)) = w8 at *
  refine (mObject H22.out H30.out).mono ?_
  rintro e w9 ⟨v31, rfl, H31, hb⟩
  replace HM := Lib.hid (HM.out.on hb)
  replace H22 := Lib.hid (H22.out.up hb)
  replace H29 := Lib.hid (H29.out.up hb)
  replace H30 := Lib.hid (H30.out.up hb)
  replace HB := Lib.hid (HB.out.trans (hb.mono HB.out.size))
  replace HQ := Lib.hid (Nat.le_trans HQ.out hb.size)
  clear hb
  obtain ⟨k31, i31, x31, A31, n31, c31, B31, m31, d31, rfl⟩ := VAL.shape H31
  replace H31 := Lib.hid H31
  clear H30 H22
  clear H29
  go_wp2_with fail
  have Hg1 := BX.new (w9) (.int .i64 k31) (.bool i31) (.string x31) (.slice A31 n31 c31) (.slice B31 m31 d31)
  have hb0 : Below (w9).heap.size (w9) ((w9).alloc (.cells #[.int .i64 k31, .bool i31, .string x31, .slice A31 n31 c31, .slice B31 m31 d31] 25)) := (Below.refl _ _).alloc (Nat.le_refl _) _
  replace HM := Lib.hid (HM.out.on hb0)
  replace H31 := Lib.hid (H31.out.up hb0)
  replace HB := Lib.hid (HB.out.trans (hb0.mono HB.out.size))
  replace HQ := Lib.hid (Nat.le_trans HQ.out hb0.size)
  replace Hg1 := Lib.hid Hg1
  clear hb0
  have H32 := TSV_new (z := zNew (w.heap.size)) [⟨#[114, 97, 110, 103, 101]⟩, ⟨#[116, 101, 120, 116]⟩] ((w9).alloc (.cells #[.int .i64 k31, .bool i31, .string x31, .slice A31 n31 c31, .slice B31 m31 d31] 25)) #[.string ⟨#[114, 97, 110, 103, 101]⟩, .string ⟨#[116, 101, 120, 116]⟩] 9 2 rfl (zNew_alloc HQ.out)
  rw [show ((w9).alloc (.cells #[.int .i64 k31, .bool i31, .string x31, .slice A31 n31 c31, .slice B31 m31 d31] 25)).heap.size = w9.heap.size + 1 by simp] at H32
  have hb1 : Below ((w9).alloc (.cells #[.int .i64 k31, .bool i31, .string x31, .slice A31 n31 c31, .slice B31 m31 d31] 25)).heap.size ((w9).alloc (.cells #[.int .i64 k31, .bool i31, .string x31, .slice A31 n31 c31, .slice B31 m31 d31] 25)) (((w9).alloc (.cells #[.int .i64 k31, .bool i31, .string x31, .slice A31 n31 c31, .slice B31 m31 d31] 25)).alloc (.cells #[.string ⟨#[114, 97, 110, 103, 101]⟩, .string ⟨#[116, 101, 120, 116]⟩] 9)) := (Below.refl _ _).alloc (Nat.le_refl _) _
  replace HM := Lib.hid (HM.out.on hb1)
  replace H31 := Lib.hid (H31.out.up hb1)
  replace Hg1 := Lib.hid (Hg1.out.on hb1)
  replace HB := Lib.hid (HB.out.trans (hb1.mono HB.out.size))
  replace HQ := Lib.hid (Nat.le_trans HQ.out hb1.size)
  replace H32 := Lib.hid H32
  clear hb1
  have H33 := TSV_new (z := zNew (w.heap.size)) [⟨#[115, 116, 97, 114, 116]⟩, ⟨#[101, 110, 100]⟩] (((w9).alloc (.cells #[.int .i64 k31, .bool i31, .string x31, .slice A31 n31 c31, .slice B31 m31 d31] 25)).alloc (.cells #[.string ⟨#[114, 97, 110, 103, 101]⟩, .string ⟨#[116, 101, 120, 116]⟩] 9)) #[.string ⟨#[115, 116, 97, 114, 116]⟩, .string ⟨#[101, 110, 100]⟩] 9 2 rfl (zNew_alloc HQ.out)
  rw [show (((w9).alloc (.cells #[.int .i64 k31, .bool i31, .string x31, .slice A31 n31 c31, .slice B31 m31 d31] 25)).alloc (.cells #[.string ⟨#[114, 97, 110, 103, 101]⟩, .string ⟨#[116, 101, 120, 116]⟩] 9)).heap.size = w9.heap.size + 2 by simp] at H33
  have hb2 : Below (((w9).alloc (.cells #[.int .i64 k31, .bool i31, .string x31, .slice A31 n31 c31, .slice B31 m31 d31] 25)).alloc (.cells #[.string ⟨#[114, 97, 110, 103, 101]⟩, .string ⟨#[116, 101, 120, 116]⟩] 9)).heap.size (((w9).alloc (.cells #[.int .i64 k31, .bool i31, .string x31, .slice A31 n31 c31, .slice B31 m31 d31] 25)).alloc (.cells #[.string ⟨#[114, 97, 110, 103, 101]⟩, .string ⟨#[116, 101, 120, 116]⟩] 9)) ((((w9).alloc (.cells #[.int .i64 k31, .bool i31, .string x31, .slice A31 n31 c31, .slice B31 m31 d31] 25)).alloc (.cells #[.string ⟨#[114, 97, 110, 103, 101]⟩, .string ⟨#[116, 101, 120, 116]⟩] 9)).alloc (.cells #[.string ⟨#[115, 116, 97, 114, 116]⟩, .string ⟨#[101, 110, 100]⟩] 9)) := (Below.refl _ _).alloc (Nat.le_refl _) _
  replace HM := Lib.hid (HM.out.on hb2)
  replace H31 := Lib.hid (H31.out.up hb2)
  replace Hg1 := Lib.hid (Hg1.out.on hb2)
  replace H32 := Lib.hid (H32.out.up hb2)
  replace HB := Lib.hid (HB.out.trans (hb2.mono HB.out.size))
  replace HQ := Lib.hid (Nat.le_trans HQ.out hb2.size)
  replace H33 := Lib.hid H33
  clear hb2
  generalize (Value.slice (some ⟨w9.heap.size + 1, 0, none⟩) 2 2) = s32 at *
  generalize (Value.slice (some ⟨w9.heap.size + 2, 0, none⟩) 2 2) = s33 at *
  generalize ((((w9).alloc (.cells #[.int .i64 k31, .bool i31, .string x31, .slice A31 n31 c31, .slice B31 m31 d31] 25)).alloc (.cells #[.string ⟨#[114, 97, 110, 103, 101]⟩, .string ⟨#[116, 101, 120, 116]⟩] 9)).alloc (.cells #[.string ⟨#[115, 116, 97, 114, 116]⟩, .string ⟨#[101, 110, 100]⟩] 9)) = w10 at *
  refine (mPlace HQ.out ⟨#[48]⟩ ⟨#[49]⟩).mono ?_
  rintro e w11 ⟨v34, rfl, H34, hb⟩
  replace HM := Lib.hid (HM.out.on hb)
  replace H31 := Lib.hid (H31.out.up hb)
  replace Hg1 := Lib.hid (Hg1.out.on hb)
  replace H32 := Lib.hid (H32.out.up hb)
  replace H33 := Lib.hid (H33.out.up hb)
  replace HB := Lib.hid (HB.out.trans (hb.mono HB.out.size))
  replace HQ := Lib.hid (Nat.le_trans HQ.out hb.size)
  clear hb
  obtain ⟨k34, i34, x34, A34, n34, c34, B34, m34, d34, rfl⟩ := VAL.shape H34
  replace H34 := Lib.hid H34
  go_wp2_with fail
  refine (mPlace HQ.out ⟨#[50]⟩ ⟨#[48]⟩).mono ?_
  rintro e w12 ⟨v35, rfl, H35, hb⟩
  replace HM := Lib.hid (HM.out.on hb)
  replace H31 := Lib.hid (H31.out.up hb)
  replace Hg1 := Lib.hid (Hg1.out.on hb)
  replace H32 := Lib.hid (H32.out.up hb)
  replace H33 := Lib.hid (H33.out.up hb)
  replace H34 := Lib.hid (H34.out.up hb)
  replace HB := Lib.hid (HB.out.trans (hb.mono HB.out.size))
  replace HQ := Lib.hid (Nat.le_trans HQ.out hb.size)
  clear hb
  obtain ⟨k35, i35, x35, A35, n35, c35, B35, m35, d35, rfl⟩ := VAL.shape H35
  replace H35 := Lib.hid H35
  go_wp2_with fail
  have H36 := VSV_new (z := zNew (w.heap.size)) [(plT ⟨#[48]⟩ ⟨#[49]⟩), (plT ⟨#[50]⟩ ⟨#[48]⟩)] (w12) #[.int .i64 k34, .bool i34, .string x34, .slice A34 n34 c34, .slice B34 m34 d34, .int .i64 k35, .bool i35, .string x35, .slice A35 n35 c35, .slice B35 m35 d35] 25 2 (VR.cons H34.out (VR.cons H35.out (VR.none _ _))) (zNew_alloc HQ.out)
  have hb0 : Below (w12).heap.size (w12) ((w12).alloc (.cells #[.int .i64 k34, .bool i34, .string x34, .slice A34 n34 c34, .slice B34 m34 d34, .int .i64 k35, .bool i35, .string x35, .slice A35 n35 c35, .slice B35 m35 d35] 25)) := (Below.refl _ _).alloc (Nat.le_refl _) _
  replace HM := Lib.hid (HM.out.on hb0)
  replace H31 := Lib.hid (H31.out.up hb0)
  replace Hg1 := Lib.hid (Hg1.out.on hb0)
  replace H32 := Lib.hid (H32.out.up hb0)
  replace H33 := Lib.hid (H33.out.up hb0)
  replace H34 := Lib.hid (H34.out.up hb0)
  replace H35 := Lib.hid (H35.out.up hb0)
  replace HB := Lib.hid (HB.out.trans (hb0.mono HB.out.size))
  replace HQ := Lib.hid (Nat.le_trans HQ.out hb0.size)
  replace H36 := Lib.hid H36
  clear hb0
  generalize (Value.slice (some ⟨w12.heap.size, 0, none⟩) 2 2) = s36 at *
  generalize ((w12).alloc (.cells #[.int .i64 k34, .bool i34, .string x34, .slice A34 n34 c34, .slice B34 m34 d34, .int .i64 k35, .bool i35, .string x35, .slice A35 n35 c35, .slice B35 m35 d35] 25)) = w13 at *
  refine (mObject H33.out H36.out).mono ?_
  rintro e w14 ⟨v37, rfl, H37, hb⟩
  replace HM := Lib.hid (HM.out.on hb)
  replace H31 := Lib.hid (H31.out.up hb)
  replace Hg1 := Lib.hid (Hg1.out.on hb)
  replace H32 := Lib.hid (H32.out.up hb)
  replace H33 := Lib.hid (H33.out.up hb)
  replace H34 := Lib.hid (H34.out.up hb)
  replace H35 := Lib.hid (H35.out.up hb)
  replace H36 := Lib.hid (H36.out.up hb)
  replace HB := Lib.hid (HB.out.trans (hb.mono HB.out.size))
  replace HQ := Lib.hid (Nat.le_trans HQ.out hb.size)
  clear hb
  obtain ⟨k37, i37, x37, A37, n37, c37, B37, m37, d37, rfl⟩ := VAL.shape H37
  replace H37 := Lib.hid H37
  clear H36 H33
  clear H34 H35
  go_wp2_with fail
  refine (mText (zNew (w.heap.size)) ⟨#[]⟩ w14).mono ?_
  rintro e w15 ⟨v38, rfl, H38, hb⟩
  replace HM := Lib.hid (HM.out.on hb)
  replace H31 := Lib.hid (H31.out.up hb)
  replace Hg1 := Lib.hid (Hg1.out.on hb)
  replace H32 := Lib.hid (H32.out.up hb)
  replace H37 := Lib.hid (H37.out.up hb)
  replace HB := Lib.hid (HB.out.trans (hb.mono HB.out.size))
  replace HQ := Lib.hid (Nat.le_trans HQ.out hb.size)
  clear hb
  obtain ⟨k38, i38, x38, A38, n38, c38, B38, m38, d38, rfl⟩ := VAL.shape H38
  replace H38 := Lib.hid H38
  go_wp2_with fail
  have H39 := VSV_new (z := zNew (w.heap.size)) [(obT [⟨#[115, 116, 97, 114, 116]⟩, ⟨#[101, 110, 100]⟩] [(plT ⟨#[48]⟩ ⟨#[49]⟩), (plT ⟨#[50]⟩ ⟨#[48]⟩)]), (txT ⟨#[]⟩)] (w15) #[.int .i64 k37, .bool i37, .string x37, .slice A37 n37 c37, .slice B37 m37 d37, .int .i64 k38, .bool i38, .string x38, .slice A38 n38 c38, .slice B38 m38 d38] 25 2 (VR.cons H37.out (VR.cons H38.out (VR.none _ _))) (zNew_alloc HQ.out)
  have hb0 : Below (w15).heap.size (w15) ((w15).alloc (.cells #[.int .i64 k37, .bool i37, .string x37, .slice A37 n37 c37, .slice B37 m37 d37, .int .i64 k38, .bool i38, .string x38, .slice A38 n38 c38, .slice B38 m38 d38] 25)) := (Below.refl _ _).alloc (Nat.le_refl _) _
  replace HM := Lib.hid (HM.out.on hb0)
  replace H31 := Lib.hid (H31.out.up hb0)
  replace Hg1 := Lib.hid (Hg1.out.on hb0)
  replace H32 := Lib.hid (H32.out.up hb0)
  replace H37 := Lib.hid (H37.out.up hb0)
  replace H38 := Lib.hid (H38.out.up hb0)
  replace HB := Lib.hid (HB.out.trans (hb0.mono HB.out.size))
  replace HQ := Lib.hid (Nat.le_trans HQ.out hb0.size)
  replace H39 := Lib.hid H39
  clear hb0
  generalize (Value.slice (some ⟨w15.heap.size, 0, none⟩) 2 2) = s39 at *
  generalize ((w15).alloc (.cells #[.int .i64 k37, .bool i37, .string x37, .slice A37 n37 c37, .slice B37 m37 d37, .int .i64 k38, .bool i38, .string x38, .slice A38 n38 c38, .slice B38 m38 d38] 25)) = w16 at *
  refine (mObject H32.out H39.out).mono ?_
  rintro e w17 ⟨v40, rfl, H40, hb⟩
  replace HM := Lib.hid (HM.out.on hb)
  replace H31 := Lib.hid (H31.out.up hb)
  replace Hg1 := Lib.hid (Hg1.out.on hb)
  replace H32 := Lib.hid (H32.out.up hb)
  replace H37 := Lib.hid (H37.out.up hb)
  replace H38 := Lib.hid (H38.out.up hb)
  replace H39 := Lib.hid (H39.out.up hb)
  replace HB := Lib.hid (HB.out.trans (hb.mono HB.out.size))
  replace HQ := Lib.hid (Nat.le_trans HQ.out hb.size)
  clear hb
  obtain ⟨k40, i40, x40, A40, n40, c40, B40, m40, d40, rfl⟩ := VAL.shape H40
  replace H40 := Lib.hid H40
  clear H39 H32
  clear H37 H38
  replace H40 : Hid (VLV (zNew w.heap.size) cutT _ _) := H40
  go_upto_region 3 with (fail)
  have Hg2 := BX.new (w17) (.int .i64 k40) (.bool i40) (.string x40) (.slice A40 n40 c40) (.slice B40 m40 d40)
  have hb0 : Below (w17).heap.size (w17) ((w17).alloc (.cells #[.int .i64 k40, .bool i40, .string x40, .slice A40 n40 c40, .slice B40 m40 d40] 25)) := (Below.refl _ _).alloc (Nat.le_refl _) _
  replace HM := Lib.hid (HM.out.on hb0)
  replace H31 := Lib.hid (H31.out.up hb0)
  replace Hg1 := Lib.hid (Hg1.out.on hb0)
  replace H40 := Lib.hid (H40.out.up hb0)
  replace HB := Lib.hid (HB.out.trans (hb0.mono HB.out.size))
  replace HQ := Lib.hid (Nat.le_trans HQ.out hb0.size)
  replace Hg2 := Lib.hid Hg2
  clear hb0
  generalize ((w17).alloc (.cells #[.int .i64 k40, .bool i40, .string x40, .slice A40 n40 c40, .slice B40 m40 d40] 25)) = w18 at *
  refine start_ (n := 17) (S := fun w' => True) (ds := []) #[false, false, false, false, false, false, false, false, false, false, false, false, false, false, false, false, false] (by kernel_rfl) rfl rfl trivial (fun hHeld => ?_)
  clear hHeld
  have hb : Below w18.heap.size w18 w18.drew := (Below.refl _ _).drew
  replace HM := Lib.hid (HM.out.on hb)
  replace H31 := Lib.hid (H31.out.up hb)
  replace Hg1 := Lib.hid (Hg1.out.on hb)
  replace H40 := Lib.hid (H40.out.up hb)
  replace Hg2 := Lib.hid (Hg2.out.on hb)
  replace HB := Lib.hid (HB.out.trans (hb.mono HB.out.size))
  replace HQ := Lib.hid (Nat.le_trans HQ.out hb.size)
  clear hb
  generalize w18.drew = w19 at *
  refine inv_ (B := [0, 0, 0, 4, 12, 30, 0, 62, 190, 510, 0, 2046, 4094, 8190, 16383, 0, 65535]) [0, 1, 2, 3, 4, 5, 6, 7, 8, 9, 10, 11, 12, 13, 14, 15, 16] (ToldI _ (awake3 (zAlt (w.heap.size) w19.heap.size) w19.heap.size) 16 w19 _) rfl (by kernel_rfl) (by kernel_rfl) (by kernel_rfl) told_begin ?_ (told_end (by kernel_rfl))
  refine steps_cons (told_step 0 (awake3_ok _ _) (awake3_up _ _) rfl (by kernel_rfl) ?_) ?_
  · intro b V a w' ha hB hF hon
    refine ⟨_, rfl, rfl, fun K hK => ?_⟩
    refine value_ (w1 := w'.alloc (.cells #[.string ⟨#[116, 101, 120, 116, 68, 111, 99, 117, 109, 101, 110, 116]⟩, .string ⟨#[99, 111, 110, 116, 101, 110, 116, 67, 104, 97, 110, 103, 101, 115]⟩] 9)) (v := .slice (some ⟨w'.heap.size, 0, none⟩) 2 2) rfl rfl ?_ (hK _ _ ((Below.refl _ _).alloc (Nat.le_refl _) _) (TSV_new _ _ _ _ _ rfl (zAlt_alloc (Nat.le_trans HQ.out hB.size) (not_zBox (by simp)))))
    clear ha hF hon hK K
    go_simp
    all_goals first | rfl | (constructor <;> rfl)
  refine steps_cons (told_step 1 (awake3_ok _ _) (awake3_up _ _) rfl (by kernel_rfl) ?_) ?_
  · intro b V a w' ha hB hF hon
    refine ⟨_, rfl, rfl, fun K hK => ?_⟩
    refine value_ (w1 := w'.alloc (.cells #[.string ⟨#[117, 114, 105]⟩, .string ⟨#[118, 101, 114, 115, 105, 111, 110]⟩] 9)) (v := .slice (some ⟨w'.heap.size, 0, none⟩) 2 2) rfl rfl ?_ (hK _ _ ((Below.refl _ _).alloc (Nat.le_refl _) _) (TSV_new _ _ _ _ _ rfl (zAlt_alloc (Nat.le_trans HQ.out hB.size) (not_zBox (by simp)))))
    clear ha hF hon hK K
    go_simp
    all_goals first | rfl | (constructor <;> rfl)
  refine steps_cons (told_step 2 (awake3_ok _ _) (awake3_up _ _) rfl (by kernel_rfl) ?_) ?_
  · intro b V a w' ha hB hF hon
    refine ⟨_, rfl, rfl, fun K hK => ?_⟩
    refine goes_ Tryz.func15 (by kernel_rfl) rfl #[.string ⟨#[97]⟩] rfl rfl rfl (by simp only [List.map_toArray, List.map_cons, List.map_nil, Act.eval]) ?_
    refine (mText (zAlt (w.heap.size) w19.heap.size) ⟨#[97]⟩ w').mono ?_
    rintro e w'' ⟨v, rfl, hv, hb⟩
    exact ⟨v, rfl, hK v w'' hb hv⟩
  refine steps_cons (told_step 3 (awake3_ok _ _) (awake3_up _ _) rfl (by kernel_rfl) ?_) ?_
  · intro b V a w' ha hB hF hon
    refine ⟨_, rfl, rfl, fun K hK => ?_⟩
    refine goes_ Tryz.func16 (by kernel_rfl) rfl #[.string ⟨#[52]⟩] rfl rfl rfl (by simp only [List.map_toArray, List.map_cons, List.map_nil, Act.eval]) ?_
    refine (mNumber (zAlt (w.heap.size) w19.heap.size) ⟨#[52]⟩ w').mono ?_
    rintro e w'' ⟨v, rfl, hv, hb⟩
    exact ⟨v, rfl, hK v w'' hb hv⟩
  refine steps_cons (told_step 4 (awake3_ok _ _) (awake3_up _ _) rfl (by kernel_rfl) ?_) ?_
  · intro b V a w' ha hB hF hon
    refine ⟨_, rfl, rfl, fun K hK => ?_⟩
    have e43 := told_get 2 (awake3_ok _ _) rfl ha (hon 2 (by kernel_rfl)) (by kernel_rfl)
    have F43 := told_fact 2 hF rfl (hon 2 (by kernel_rfl))
    obtain ⟨k_43, i_43, x_43, A_43, n_43, c_43, B_43, m_43, d_43, hv43⟩ := VAL.shape F43
    rw [hv43] at e43 F43
    have e44 := told_get 3 (awake3_ok _ _) rfl ha (hon 3 (by kernel_rfl)) (by kernel_rfl)
    have F44 := told_fact 3 hF rfl (hon 3 (by kernel_rfl))
    obtain ⟨k_44, i_44, x_44, A_44, n_44, c_44, B_44, m_44, d_44, hv44⟩ := VAL.shape F44
    rw [hv44] at e44 F44
    have hk_ := VLV.kind_ne F43 (by decide)
    refine value_ (w1 := w'.alloc (.cells #[.int .i64 k_43, .bool i_43, .string x_43, .slice A_43 n_43 c_43, .slice B_43 m_43 d_43, .int .i64 k_44, .bool i_44, .string x_44, .slice A_44 n_44 c_44, .slice B_44 m_44 d_44] 25)) (v := .slice (some ⟨w'.heap.size, 0, none⟩) 2 2) rfl rfl ?_ (hK _ _ ((Below.refl _ _).alloc (Nat.le_refl _) _) (VSV_new _ _ _ _ _ (VR.cons F43 (VR.cons F44 (VR.none _ _))) (zAlt_alloc (Nat.le_trans HQ.out hB.size) (not_zBox (by simp [hk_])))))
    clear ha hF hon hK K
    go_simp
    all_goals first | rfl | (constructor <;> rfl)
  refine steps_cons (told_step 5 (awake3_ok _ _) (awake3_up _ _) rfl (by kernel_rfl) ?_) ?_
  · intro b V a w' ha hB hF hon
    refine ⟨_, rfl, rfl, fun K hK => ?_⟩
    have e42 := told_get 1 (awake3_ok _ _) rfl ha (hon 1 (by kernel_rfl)) (by kernel_rfl)
    have F42 := told_fact 1 hF rfl (hon 1 (by kernel_rfl))
    have e45 := told_get 4 (awake3_ok _ _) rfl ha (hon 4 (by kernel_rfl)) (by kernel_rfl)
    have F45 := told_fact 4 hF rfl (hon 4 (by kernel_rfl))
    refine goes_ Tryz.func14 (by kernel_rfl) rfl #[V 1, V 4] rfl rfl rfl (by simp only [List.map_toArray, List.map_cons, List.map_nil, Act.eval, Array.getD_eq_getD_getElem?, e42, e45, Option.getD_some]) ?_
    refine (mObject F42 F45).mono ?_
    rintro e w'' ⟨v, rfl, hv, hb⟩
    exact ⟨v, rfl, hK v w'' hb hv⟩
  refine steps_cons (told_step 6 (awake3_ok _ _) (awake3_up _ _) rfl (by kernel_rfl) ?_) ?_
  · intro b V a w' ha hB hF hon
    refine ⟨_, rfl, rfl, fun K hK => ?_⟩
    refine value_ (w1 := w'.alloc (.cells #[.string ⟨#[116, 101, 120, 116]⟩] 9)) (v := .slice (some ⟨w'.heap.size, 0, none⟩) 1 1) rfl rfl ?_ (hK _ _ ((Below.refl _ _).alloc (Nat.le_refl _) _) (TSV_new _ _ _ _ _ rfl (zAlt_alloc (Nat.le_trans HQ.out hB.size) (not_zBox (by simp)))))
    clear ha hF hon hK K
    go_simp
    all_goals first | rfl | (constructor <;> rfl)
  refine steps_cons (told_step 7 (awake3_ok _ _) (awake3_up _ _) rfl (by kernel_rfl) ?_) ?_
  · intro b V a w' ha hB hF hon
    refine ⟨_, rfl, rfl, fun K hK => ?_⟩
    refine goes_ Tryz.func15 (by kernel_rfl) rfl #[.string ⟨#[121]⟩] rfl rfl rfl (by simp only [List.map_toArray, List.map_cons, List.map_nil, Act.eval]) ?_
    refine (mText (zAlt (w.heap.size) w19.heap.size) ⟨#[121]⟩ w').mono ?_
    rintro e w'' ⟨v, rfl, hv, hb⟩
    exact ⟨v, rfl, hK v w'' hb hv⟩
  refine steps_cons (told_step 8 (awake3_ok _ _) (awake3_up _ _) rfl (by kernel_rfl) ?_) ?_
  · intro b V a w' ha hB hF hon
    refine ⟨_, rfl, rfl, fun K hK => ?_⟩
    have e48 := told_get 7 (awake3_ok _ _) rfl ha (hon 7 (by kernel_rfl)) (by kernel_rfl)
    have F48 := told_fact 7 hF rfl (hon 7 (by kernel_rfl))
    obtain ⟨k_48, i_48, x_48, A_48, n_48, c_48, B_48, m_48, d_48, hv48⟩ := VAL.shape F48
    rw [hv48] at e48 F48
    have hk_ := VLV.kind_ne F48 (by decide)
    refine value_ (w1 := w'.alloc (.cells #[.int .i64 k_48, .bool i_48, .string x_48, .slice A_48 n_48 c_48, .slice B_48 m_48 d_48] 25)) (v := .slice (some ⟨w'.heap.size, 0, none⟩) 1 1) rfl rfl ?_ (hK _ _ ((Below.refl _ _).alloc (Nat.le_refl _) _) (VSV_new _ _ _ _ _ (VR.cons F48 (VR.none _ _)) (zAlt_alloc (Nat.le_trans HQ.out hB.size) (not_zBox (by simp [hk_])))))
    clear ha hF hon hK K
    go_simp
    all_goals first | rfl | (constructor <;> rfl)
  refine steps_cons (told_step 9 (awake3_ok _ _) (awake3_up _ _) rfl (by kernel_rfl) ?_) ?_
  · intro b V a w' ha hB hF hon
    refine ⟨_, rfl, rfl, fun K hK => ?_⟩
    have e47 := told_get 6 (awake3_ok _ _) rfl ha (hon 6 (by kernel_rfl)) (by kernel_rfl)
    have F47 := told_fact 6 hF rfl (hon 6 (by kernel_rfl))
    have e49 := told_get 8 (awake3_ok _ _) rfl ha (hon 8 (by kernel_rfl)) (by kernel_rfl)
    have F49 := told_fact 8 hF rfl (hon 8 (by kernel_rfl))
    refine goes_ Tryz.func14 (by kernel_rfl) rfl #[V 6, V 8] rfl rfl rfl (by simp only [List.map_toArray, List.map_cons, List.map_nil, Act.eval, Array.getD_eq_getD_getElem?, e47, e49, Option.getD_some]) ?_
    refine (mObject F47 F49).mono ?_
    rintro e w'' ⟨v, rfl, hv, hb⟩
    exact ⟨v, rfl, hK v w'' hb hv⟩
  refine steps_cons (told_step 10 (awake3_ok _ _) (awake3_up _ _) rfl (by kernel_rfl) ?_) ?_
  · intro b V a w' ha hB hF hon
    refine ⟨_, rfl, rfl, fun K hK => ?_⟩
    have e2 : a.tmps[2]? = some (.pointer (some ⟨(w17.heap.size), 0, none⟩)) := by rw [ha]; exact (putSel_off (by rfl)).trans rfl
    have hg := Hg2.out.on hB
    have y0 := hg.c0
    have y1 := hg.c1
    have y2 := hg.c2
    have y3 := hg.c3
    have y4 := hg.c4
    refine value_ (w1 := w') (v := .agg #[.int .i64 k40, .bool i40, .string x40, .slice A40 n40 c40, .slice B40 m40 d40]) rfl rfl ?_ (hK _ _ (Below.refl _ _) (VLV.up (VLV.mix H40.out rfl) hB))
    clear ha hF hon hK K
    go_simp
    all_goals first | rfl | (constructor <;> rfl)
  refine steps_cons (told_step 11 (awake3_ok _ _) (awake3_up _ _) rfl (by kernel_rfl) ?_) ?_
  · intro b V a w' ha hB hF hon
    refine ⟨_, rfl, rfl, fun K hK => ?_⟩
    have e50 := told_get 9 (awake3_ok _ _) rfl ha (hon 9 (by kernel_rfl)) (by kernel_rfl)
    have F50 := told_fact 9 hF rfl (hon 9 (by kernel_rfl))
    obtain ⟨k_50, i_50, x_50, A_50, n_50, c_50, B_50, m_50, d_50, hv50⟩ := VAL.shape F50
    rw [hv50] at e50 F50
    have e51 := told_get 10 (awake3_ok _ _) rfl ha (hon 10 (by kernel_rfl)) (by kernel_rfl)
    have F51 := told_fact 10 hF rfl (hon 10 (by kernel_rfl))
    obtain ⟨k_51, i_51, x_51, A_51, n_51, c_51, B_51, m_51, d_51, hv51⟩ := VAL.shape F51
    rw [hv51] at e51 F51
    have hk_ := VLV.kind_ne F50 (by decide)
    refine value_ (w1 := w'.alloc (.cells #[.int .i64 k_50, .bool i_50, .string x_50, .slice A_50 n_50 c_50, .slice B_50 m_50 d_50, .int .i64 k_51, .bool i_51, .string x_51, .slice A_51 n_51 c_51, .slice B_51 m_51 d_51] 25)) (v := .slice (some ⟨w'.heap.size, 0, none⟩) 2 2) rfl rfl ?_ (hK _ _ ((Below.refl _ _).alloc (Nat.le_refl _) _) (VSV_new _ _ _ _ _ (VR.cons F50 (VR.cons F51 (VR.none _ _))) (zAlt_alloc (Nat.le_trans HQ.out hB.size) (not_zBox (by simp [hk_])))))
    clear ha hF hon hK K
    go_simp
    all_goals first | rfl | (constructor <;> rfl)
  refine steps_cons (told_step 12 (awake3_ok _ _) (awake3_up _ _) rfl (by kernel_rfl) ?_) ?_
  · intro b V a w' ha hB hF hon
    refine ⟨_, rfl, rfl, fun K hK => ?_⟩
    have e52 := told_get 11 (awake3_ok _ _) rfl ha (hon 11 (by kernel_rfl)) (by kernel_rfl)
    have F52 := told_fact 11 hF rfl (hon 11 (by kernel_rfl))
    refine goes_ Tryz.func18 (by kernel_rfl) rfl #[V 11] rfl rfl rfl (by simp only [List.map_toArray, List.map_cons, List.map_nil, Act.eval, Array.getD_eq_getD_getElem?, e52, Option.getD_some]) ?_
    refine (mList F52).mono ?_
    rintro e w'' ⟨v, rfl, hv, hb⟩
    exact ⟨v, rfl, hK v w'' hb hv⟩
  refine steps_cons (told_step 13 (awake3_ok _ _) (awake3_up _ _) rfl (by kernel_rfl) ?_) ?_
  · intro b V a w' ha hB hF hon
    refine ⟨_, rfl, rfl, fun K hK => ?_⟩
    have e46 := told_get 5 (awake3_ok _ _) rfl ha (hon 5 (by kernel_rfl)) (by kernel_rfl)
    have F46 := told_fact 5 hF rfl (hon 5 (by kernel_rfl))
    obtain ⟨k_46, i_46, x_46, A_46, n_46, c_46, B_46, m_46, d_46, hv46⟩ := VAL.shape F46
    rw [hv46] at e46 F46
    have e53 := told_get 12 (awake3_ok _ _) rfl ha (hon 12 (by kernel_rfl)) (by kernel_rfl)
    have F53 := told_fact 12 hF rfl (hon 12 (by kernel_rfl))
    obtain ⟨k_53, i_53, x_53, A_53, n_53, c_53, B_53, m_53, d_53, hv53⟩ := VAL.shape F53
    rw [hv53] at e53 F53
    have hk_ := VLV.kind_ne F46 (by decide)
    refine value_ (w1 := w'.alloc (.cells #[.int .i64 k_46, .bool i_46, .string x_46, .slice A_46 n_46 c_46, .slice B_46 m_46 d_46, .int .i64 k_53, .bool i_53, .string x_53, .slice A_53 n_53 c_53, .slice B_53 m_53 d_53] 25)) (v := .slice (some ⟨w'.heap.size, 0, none⟩) 2 2) rfl rfl ?_ (hK _ _ ((Below.refl _ _).alloc (Nat.le_refl _) _) (VSV_new _ _ _ _ _ (VR.cons F46 (VR.cons F53 (VR.none _ _))) (zAlt_alloc (Nat.le_trans HQ.out hB.size) (not_zBox (by simp [hk_])))))
    clear ha hF hon hK K
    go_simp
    all_goals first | rfl | (constructor <;> rfl)
  refine steps_cons (told_step 14 (awake3_ok _ _) (awake3_up _ _) rfl (by kernel_rfl) ?_) ?_
  · intro b V a w' ha hB hF hon
    refine ⟨_, rfl, rfl, fun K hK => ?_⟩
    have e41 := told_get 0 (awake3_ok _ _) rfl ha (hon 0 (by kernel_rfl)) (by kernel_rfl)
    have F41 := told_fact 0 hF rfl (hon 0 (by kernel_rfl))
    have e54 := told_get 13 (awake3_ok _ _) rfl ha (hon 13 (by kernel_rfl)) (by kernel_rfl)
    have F54 := told_fact 13 hF rfl (hon 13 (by kernel_rfl))
    refine goes_ Tryz.func14 (by kernel_rfl) rfl #[V 0, V 13] rfl rfl rfl (by simp only [List.map_toArray, List.map_cons, List.map_nil, Act.eval, Array.getD_eq_getD_getElem?, e41, e54, Option.getD_some]) ?_
    refine (mObject F41 F54).mono ?_
    rintro e w'' ⟨v, rfl, hv, hb⟩
    exact ⟨v, rfl, hK v w'' hb hv⟩
  refine steps_cons (told_step 15 (awake3_ok _ _) (awake3_up _ _) rfl (by kernel_rfl) ?_) ?_
  · intro b V a w' ha hB hF hon
    refine ⟨_, rfl, rfl, fun K hK => ?_⟩
    refine value_ (w1 := w'.alloc (.cells #[.int .i64 0, .bool false, .string ⟨#[]⟩, .slice none 0 0, .slice none 0 0] 25)) (v := .pointer (some ⟨w'.heap.size, 0, none⟩)) rfl rfl ?_ (hK _ _ ((Below.refl _ _).alloc (Nat.le_refl _) _) (BXV_new _ hB.size))
    clear ha hF hon hK K
    go_simp
    all_goals first | rfl | (constructor <;> rfl)
  refine steps_cons (told_last ?_ ?_) steps_nil
  · intro e he; simp only [awake3, List.mem_cons, List.mem_nil_iff, or_false] at he; rcases he with rfl | rfl | rfl | rfl | rfl | rfl | rfl | rfl | rfl | rfl | rfl | rfl | rfl | rfl | rfl | rfl <;> kernel_rfl
  intro V a w' ha hB hF
  refine ⟨_, rfl, rfl, fun K hK => ?_⟩
  have e3 := told_get 15 (awake3_ok _ _) rfl ha rfl (by kernel_rfl)
  have F3 := hF _ (List.mem_of_getElem? (i := 15) rfl)
  have e55 := told_get 14 (awake3_ok _ _) rfl ha rfl (by kernel_rfl)
  have F55 := hF _ (List.mem_of_getElem? (i := 14) rfl)
  obtain ⟨g3, hv3, hg3, hB3⟩ := F3
  obtain ⟨k55, i55, x55, A55, n55, c55, B55, m55, d55, hv55⟩ := VAL.shape F55
  dsimp only at hv3 hv55 F55
  rw [hv3] at e3
  rw [hv55] at e55 F55
  have f0 := hB3.fr 0
  have y0 := hB3.c0
  have f1 := hB3.fr 1
  have y1 := hB3.c1
  have f2 := hB3.fr 2
  have y2 := hB3.c2
  have f3 := hB3.fr 3
  have y3 := hB3.c3
  have f4 := hB3.fr 4
  have y4 := hB3.c4
  refine skip_ (w1 := five w' g3 (.int .i64 k55) (.bool i55) (.string x55) (.slice A55 n55 c55) (.slice B55 m55 d55)) rfl rfl ?_ (hK _ _ ?_)
  · clear ha hF hK K
    go_simp
    all_goals first | rfl | (constructor <;> rfl)
  clear hK K hF f0 y0 f1 y1 f2 y2 f3 y3 f4 y4
  have hb := five_below hB g3 (.int .i64 k55) (.bool i55) (.string x55) (.slice A55 n55 c55) (.slice B55 m55 d55) hg3
  replace HM := Lib.hid (HM.out.on hb)
  replace H31 := Lib.hid (H31.out.up hb)
  replace Hg1 := Lib.hid (Hg1.out.on hb)
  replace H40 := Lib.hid (H40.out.up hb)
  replace Hg2 := Lib.hid (Hg2.out.on hb)
  replace HB := Lib.hid (HB.out.trans (hb.mono HB.out.size))
  replace HQ := Lib.hid (Nat.le_trans HQ.out hb.size)
  clear hb hB
  have H55 := Lib.hid (VLV.put F55 hg3 hB3 (.int .i64 k55) (.bool i55) (.string x55) (.slice A55 n55 c55) (.slice B55 m55 d55))
  have Hg3 : Hid (BX (five w' g3 (.int .i64 k55) (.bool i55) (.string x55) (.slice A55 n55 c55) (.slice B55 m55 d55)) g3 (.int .i64 k55) (.bool i55) (.string x55) (.slice A55 n55 c55) (.slice B55 m55 d55)) := Lib.hid (hB3.put (.int .i64 k55) (.bool i55) (.string x55) (.slice A55 n55 c55) (.slice B55 m55 d55))
  rw [ha]
  clear e3 e55 ha hB3 F55 hg3
  simp only [awake3, Tolds.put, List.map_cons, List.map_nil, putSel, if_true, Act.put, List.setIfInBounds_toArray, List.set_cons_zero, List.set_cons_succ, hv3, hv55]
  clear hv3 hv55
  generalize V 0 = u0
  generalize V 1 = u1
  generalize V 2 = u2
  generalize V 3 = u3
  generalize V 4 = u4
  generalize V 5 = u5
  generalize V 6 = u6
  generalize V 7 = u7
  generalize V 8 = u8
  generalize V 9 = u9
  generalize V 10 = u10
  generalize V 11 = u11
  generalize V 12 = u12
  generalize V 13 = u13
  clear V
  generalize (five w' g3 (.int .i64 k55) (.bool i55) (.string x55) (.slice A55 n55 c55) (.slice B55 m55 d55)) = w20 at *
  clear H40 Hg2
  have hg := Hg1.out
  have y0 := hg.c0
  have y1 := hg.c1
  have y2 := hg.c2
  have y3 := hg.c3
  have y4 := hg.c4
  clear hg
  go_wp2_with fail
  clear y0 y1 y2 y3 y4
  have hC := Open_any openT w20 _ _ H31.out (Zone.lt _ _) HM.out (Nat.le_of_ble_eq_true (by kernel_rfl))
  rw [show opensV openT = .tuple #[.string ⟨#[97]⟩, .int .i64 3, .string ⟨#[120]⟩, .int .i64 0] by kernel_rfl] at hC
  refine hC.mono ?_
  clear hC
  rintro e w21 ⟨rfl, hb⟩
  replace HM := Lib.hid (HM.out.on hb)
  replace H31 := Lib.hid (H31.out.up hb)
  replace Hg1 := Lib.hid (Hg1.out.on hb)
  replace H55 := Lib.hid (H55.out.up hb)
  replace Hg3 := Lib.hid (Hg3.out.on hb)
  replace HB := Lib.hid (HB.out.trans (hb.mono HB.out.size))
  replace HQ := Lib.hid (Nat.le_trans HQ.out hb.size)
  clear hb
  clear H31 Hg1
  have hg := Hg3.out
  have y0 := hg.c0
  have y1 := hg.c1
  have y2 := hg.c2
  have y3 := hg.c3
  have y4 := hg.c4
  clear hg
  go_wp2_with fail
  clear y0 y1 y2 y3 y4
  have hC := Change_any changeT w21 _ _ H55.out (Zone.lt _ _) HM.out (Nat.le_of_ble_eq_true (by kernel_rfl))
  refine hC.mono ?_
  clear hC
  rintro e w22 hC
  obtain ⟨EA, ecap, rfl, hE, hb⟩ := changeT_lit HQ.out hC
  clear hC
  replace HM := Lib.hid (HM.out.on hb)
  replace H55 := Lib.hid (H55.out.up hb)
  replace Hg3 := Lib.hid (Hg3.out.on hb)
  replace HB := Lib.hid (HB.out.trans (hb.mono HB.out.size))
  replace HQ := Lib.hid (Nat.le_trans HQ.out hb.size)
  clear hb
  replace hE := Lib.hid hE
  clear H55 Hg3
  go_wp2_with fail
  have H71 := TSV_new (z := zNew (w.heap.size)) [⟨#[116, 101, 120, 116, 68, 111, 99, 117, 109, 101, 110, 116]⟩] (w22) #[.string ⟨#[116, 101, 120, 116, 68, 111, 99, 117, 109, 101, 110, 116]⟩] 9 1 rfl (zNew_alloc HQ.out)
  have hb0 : Below (w22).heap.size (w22) ((w22).alloc (.cells #[.string ⟨#[116, 101, 120, 116, 68, 111, 99, 117, 109, 101, 110, 116]⟩] 9)) := (Below.refl _ _).alloc (Nat.le_refl _) _
  replace HM := Lib.hid (HM.out.on hb0)
  replace hE := Lib.hid (hE.out.up hb0)
  replace HB := Lib.hid (HB.out.trans (hb0.mono HB.out.size))
  replace HQ := Lib.hid (Nat.le_trans HQ.out hb0.size)
  replace H71 := Lib.hid H71
  clear hb0
  have H72 := TSV_new (z := zNew (w.heap.size)) [⟨#[117, 114, 105]⟩] ((w22).alloc (.cells #[.string ⟨#[116, 101, 120, 116, 68, 111, 99, 117, 109, 101, 110, 116]⟩] 9)) #[.string ⟨#[117, 114, 105]⟩] 9 1 rfl (zNew_alloc HQ.out)
  rw [show ((w22).alloc (.cells #[.string ⟨#[116, 101, 120, 116, 68, 111, 99, 117, 109, 101, 110, 116]⟩] 9)).heap.size = w22.heap.size + 1 by simp] at H72
  have hb1 : Below ((w22).alloc (.cells #[.string ⟨#[116, 101, 120, 116, 68, 111, 99, 117, 109, 101, 110, 116]⟩] 9)).heap.size ((w22).alloc (.cells #[.string ⟨#[116, 101, 120, 116, 68, 111, 99, 117, 109, 101, 110, 116]⟩] 9)) (((w22).alloc (.cells #[.string ⟨#[116, 101, 120, 116, 68, 111, 99, 117, 109, 101, 110, 116]⟩] 9)).alloc (.cells #[.string ⟨#[117, 114, 105]⟩] 9)) := (Below.refl _ _).alloc (Nat.le_refl _) _
  replace HM := Lib.hid (HM.out.on hb1)
  replace hE := Lib.hid (hE.out.up hb1)
  replace H71 := Lib.hid (H71.out.up hb1)
  replace HB := Lib.hid (HB.out.trans (hb1.mono HB.out.size))
  replace HQ := Lib.hid (Nat.le_trans HQ.out hb1.size)
  replace H72 := Lib.hid H72
  clear hb1
  generalize (Value.slice (some ⟨w22.heap.size, 0, none⟩) 1 1) = s71 at *
  generalize (Value.slice (some ⟨w22.heap.size + 1, 0, none⟩) 1 1) = s72 at *
  generalize (((w22).alloc (.cells #[.string ⟨#[116, 101, 120, 116, 68, 111, 99, 117, 109, 101, 110, 116]⟩] 9)).alloc (.cells #[.string ⟨#[117, 114, 105]⟩] 9)) = w23 at *
  refine (mText (zNew (w.heap.size)) ⟨#[]⟩ w23).mono ?_
  rintro e w24 ⟨v73, rfl, H73, hb⟩
  replace HM := Lib.hid (HM.out.on hb)
  replace hE := Lib.hid (hE.out.up hb)
  replace H71 := Lib.hid (H71.out.up hb)
  replace H72 := Lib.hid (H72.out.up hb)
  replace HB := Lib.hid (HB.out.trans (hb.mono HB.out.size))
  replace HQ := Lib.hid (Nat.le_trans HQ.out hb.size)
  clear hb
  obtain ⟨k73, i73, x73, A73, n73, c73, B73, m73, d73, rfl⟩ := VAL.shape H73
  replace H73 := Lib.hid H73
  go_wp2_with fail
  have H74 := VSV_new (z := zNew (w.heap.size)) [(txT ⟨#[]⟩)] (w24) #[.int .i64 k73, .bool i73, .string x73, .slice A73 n73 c73, .slice B73 m73 d73] 25 1 (VR.cons H73.out (VR.none _ _)) (zNew_alloc HQ.out)
  have hb0 : Below (w24).heap.size (w24) ((w24).alloc (.cells #[.int .i64 k73, .bool i73, .string x73, .slice A73 n73 c73, .slice B73 m73 d73] 25)) := (Below.refl _ _).alloc (Nat.le_refl _) _
  replace HM := Lib.hid (HM.out.on hb0)
  replace hE := Lib.hid (hE.out.up hb0)
  replace H71 := Lib.hid (H71.out.up hb0)
  replace H72 := Lib.hid (H72.out.up hb0)
  replace H73 := Lib.hid (H73.out.up hb0)
  replace HB := Lib.hid (HB.out.trans (hb0.mono HB.out.size))
  replace HQ := Lib.hid (Nat.le_trans HQ.out hb0.size)
  replace H74 := Lib.hid H74
  clear hb0
  generalize (Value.slice (some ⟨w24.heap.size, 0, none⟩) 1 1) = s74 at *
  generalize ((w24).alloc (.cells #[.int .i64 k73, .bool i73, .string x73, .slice A73 n73 c73, .slice B73 m73 d73] 25)) = w25 at *
  refine (mObject H72.out H74.out).mono ?_
  rintro e w26 ⟨v75, rfl, H75, hb⟩
  replace HM := Lib.hid (HM.out.on hb)
  replace hE := Lib.hid (hE.out.up hb)
  replace H71 := Lib.hid (H71.out.up hb)
  replace H72 := Lib.hid (H72.out.up hb)
  replace H73 := Lib.hid (H73.out.up hb)
  replace H74 := Lib.hid (H74.out.up hb)
  replace HB := Lib.hid (HB.out.trans (hb.mono HB.out.size))
  replace HQ := Lib.hid (Nat.le_trans HQ.out hb.size)
  clear hb
  obtain ⟨k75, i75, x75, A75, n75, c75, B75, m75, d75, rfl⟩ := VAL.shape H75
  replace H75 := Lib.hid H75
  clear H74 H72
  go_wp2_with fail
  have H76 := VSV_new (z := zNew (w.heap.size)) [(obT [⟨#[117, 114, 105]⟩] [(txT ⟨#[]⟩)])] (w26) #[.int .i64 k75, .bool i75, .string x75, .slice A75 n75 c75, .slice B75 m75 d75] 25 1 (VR.cons H75.out (VR.none _ _)) (zNew_alloc HQ.out)
  have hb0 : Below (w26).heap.size (w26) ((w26).alloc (.cells #[.int .i64 k75, .bool i75, .string x75, .slice A75 n75 c75, .slice B75 m75 d75] 25)) := (Below.refl _ _).alloc (Nat.le_refl _) _
  replace HM := Lib.hid (HM.out.on hb0)
  replace hE := Lib.hid (hE.out.up hb0)
  replace H71 := Lib.hid (H71.out.up hb0)
  replace H73 := Lib.hid (H73.out.up hb0)
  replace H75 := Lib.hid (H75.out.up hb0)
  replace HB := Lib.hid (HB.out.trans (hb0.mono HB.out.size))
  replace HQ := Lib.hid (Nat.le_trans HQ.out hb0.size)
  replace H76 := Lib.hid H76
  clear hb0
  generalize (Value.slice (some ⟨w26.heap.size, 0, none⟩) 1 1) = s76 at *
  generalize ((w26).alloc (.cells #[.int .i64 k75, .bool i75, .string x75, .slice A75 n75 c75, .slice B75 m75 d75] 25)) = w27 at *
  refine (mObject H71.out H76.out).mono ?_
  rintro e w28 ⟨v77, rfl, H77, hb⟩
  replace HM := Lib.hid (HM.out.on hb)
  replace hE := Lib.hid (hE.out.up hb)
  replace H71 := Lib.hid (H71.out.up hb)
  replace H73 := Lib.hid (H73.out.up hb)
  replace H75 := Lib.hid (H75.out.up hb)
  replace H76 := Lib.hid (H76.out.up hb)
  replace HB := Lib.hid (HB.out.trans (hb.mono HB.out.size))
  replace HQ := Lib.hid (Nat.le_trans HQ.out hb.size)
  clear hb
  obtain ⟨k77, i77, x77, A77, n77, c77, B77, m77, d77, rfl⟩ := VAL.shape H77
  replace H77 := Lib.hid H77
  clear H76 H71
  go_wp2_with fail
  have hC := Close_any (obT [⟨#[116, 101, 120, 116, 68, 111, 99, 117, 109, 101, 110, 116]⟩] [(obT [⟨#[117, 114, 105]⟩] [(txT ⟨#[]⟩)])]) w28 _ _ H77.out (Zone.lt _ _) HM.out (Nat.le_of_ble_eq_true (by kernel_rfl))
  rw [show closesV (obT [⟨#[116, 101, 120, 116, 68, 111, 99, 117, 109, 101, 110, 116]⟩] [(obT [⟨#[117, 114, 105]⟩] [(txT ⟨#[]⟩)])]) = .tuple #[.string ⟨#[]⟩, .int .i64 130] by kernel_rfl] at hC
  refine hC.mono ?_
  clear hC
  rintro e w29 ⟨rfl, hb⟩
  replace HM := Lib.hid (HM.out.on hb)
  replace hE := Lib.hid (hE.out.up hb)
  replace H73 := Lib.hid (H73.out.up hb)
  replace H75 := Lib.hid (H75.out.up hb)
  replace H77 := Lib.hid (H77.out.up hb)
  replace HB := Lib.hid (HB.out.trans (hb.mono HB.out.size))
  replace HQ := Lib.hid (Nat.le_trans HQ.out hb.size)
  clear hb
  go_wp2_with fail
  have H82 := TSV_new (z := zNew (w.heap.size)) [⟨#[116, 101, 120, 116, 68, 111, 99, 117, 109, 101, 110, 116]⟩] (w29) #[.string ⟨#[116, 101, 120, 116, 68, 111, 99, 117, 109, 101, 110, 116]⟩] 9 1 rfl (zNew_alloc HQ.out)
  have hb0 : Below (w29).heap.size (w29) ((w29).alloc (.cells #[.string ⟨#[116, 101, 120, 116, 68, 111, 99, 117, 109, 101, 110, 116]⟩] 9)) := (Below.refl _ _).alloc (Nat.le_refl _) _
  replace HM := Lib.hid (HM.out.on hb0)
  replace hE := Lib.hid (hE.out.up hb0)
  replace H73 := Lib.hid (H73.out.up hb0)
  replace H75 := Lib.hid (H75.out.up hb0)
  replace H77 := Lib.hid (H77.out.up hb0)
  replace HB := Lib.hid (HB.out.trans (hb0.mono HB.out.size))
  replace HQ := Lib.hid (Nat.le_trans HQ.out hb0.size)
  replace H82 := Lib.hid H82
  clear hb0
  generalize (Value.slice (some ⟨w29.heap.size, 0, none⟩) 1 1) = s82 at *
  generalize ((w29).alloc (.cells #[.string ⟨#[116, 101, 120, 116, 68, 111, 99, 117, 109, 101, 110, 116]⟩] 9)) = w30 at *
  refine (mText (zNew (w.heap.size)) ⟨#[97]⟩ w30).mono ?_
  rintro e w31 ⟨v83, rfl, H83, hb⟩
  replace HM := Lib.hid (HM.out.on hb)
  replace hE := Lib.hid (hE.out.up hb)
  replace H73 := Lib.hid (H73.out.up hb)
  replace H75 := Lib.hid (H75.out.up hb)
  replace H77 := Lib.hid (H77.out.up hb)
  replace H82 := Lib.hid (H82.out.up hb)
  replace HB := Lib.hid (HB.out.trans (hb.mono HB.out.size))
  replace HQ := Lib.hid (Nat.le_trans HQ.out hb.size)
  clear hb
  obtain ⟨k83, i83, x83, A83, n83, c83, B83, m83, d83, rfl⟩ := VAL.shape H83
  replace H83 := Lib.hid H83
  go_wp2_with fail
  have H84 := VSV_new (z := zNew (w.heap.size)) [(txT ⟨#[97]⟩)] (w31) #[.int .i64 k83, .bool i83, .string x83, .slice A83 n83 c83, .slice B83 m83 d83] 25 1 (VR.cons H83.out (VR.none _ _)) (zNew_alloc HQ.out)
  have hb0 : Below (w31).heap.size (w31) ((w31).alloc (.cells #[.int .i64 k83, .bool i83, .string x83, .slice A83 n83 c83, .slice B83 m83 d83] 25)) := (Below.refl _ _).alloc (Nat.le_refl _) _
  replace HM := Lib.hid (HM.out.on hb0)
  replace hE := Lib.hid (hE.out.up hb0)
  replace H73 := Lib.hid (H73.out.up hb0)
  replace H75 := Lib.hid (H75.out.up hb0)
  replace H77 := Lib.hid (H77.out.up hb0)
  replace H82 := Lib.hid (H82.out.up hb0)
  replace H83 := Lib.hid (H83.out.up hb0)
  replace HB := Lib.hid (HB.out.trans (hb0.mono HB.out.size))
  replace HQ := Lib.hid (Nat.le_trans HQ.out hb0.size)
  replace H84 := Lib.hid H84
  clear hb0
  generalize (Value.slice (some ⟨w31.heap.size, 0, none⟩) 1 1) = s84 at *
  generalize ((w31).alloc (.cells #[.int .i64 k83, .bool i83, .string x83, .slice A83 n83 c83, .slice B83 m83 d83] 25)) = w32 at *
  refine (mObject H82.out H84.out).mono ?_
  rintro e w33 ⟨v85, rfl, H85, hb⟩
  replace HM := Lib.hid (HM.out.on hb)
  replace hE := Lib.hid (hE.out.up hb)
  replace H73 := Lib.hid (H73.out.up hb)
  replace H75 := Lib.hid (H75.out.up hb)
  replace H77 := Lib.hid (H77.out.up hb)
  replace H82 := Lib.hid (H82.out.up hb)
  replace H83 := Lib.hid (H83.out.up hb)
  replace H84 := Lib.hid (H84.out.up hb)
  replace HB := Lib.hid (HB.out.trans (hb.mono HB.out.size))
  replace HQ := Lib.hid (Nat.le_trans HQ.out hb.size)
  clear hb
  obtain ⟨k85, i85, x85, A85, n85, c85, B85, m85, d85, rfl⟩ := VAL.shape H85
  replace H85 := Lib.hid H85
  clear H84 H82
  go_wp2_with fail
  have hC := Close_any (obT [⟨#[116, 101, 120, 116, 68, 111, 99, 117, 109, 101, 110, 116]⟩] [(txT ⟨#[97]⟩)]) w33 _ _ H85.out (Zone.lt _ _) HM.out (Nat.le_of_ble_eq_true (by kernel_rfl))
  rw [show closesV (obT [⟨#[116, 101, 120, 116, 68, 111, 99, 117, 109, 101, 110, 116]⟩] [(txT ⟨#[97]⟩)]) = .tuple #[.string ⟨#[]⟩, .int .i64 130] by kernel_rfl] at hC
  refine hC.mono ?_
  clear hC
  rintro e w34 ⟨rfl, hb⟩
  replace HM := Lib.hid (HM.out.on hb)
  replace hE := Lib.hid (hE.out.up hb)
  replace H73 := Lib.hid (H73.out.up hb)
  replace H75 := Lib.hid (H75.out.up hb)
  replace H77 := Lib.hid (H77.out.up hb)
  replace H83 := Lib.hid (H83.out.up hb)
  replace H85 := Lib.hid (H85.out.up hb)
  replace HB := Lib.hid (HB.out.trans (hb.mono HB.out.size))
  replace HQ := Lib.hid (Nat.le_trans HQ.out hb.size)
  clear hb
  go_wp2_with fail
  have Hn := Lib.hid (VSV_nil (zNew w.heap.size) w34)
  refine (mList Hn.out).mono ?_
  rintro e w35 ⟨v90, rfl, H90, hb⟩
  replace HM := Lib.hid (HM.out.on hb)
  replace hE := Lib.hid (hE.out.up hb)
  replace H73 := Lib.hid (H73.out.up hb)
  replace H75 := Lib.hid (H75.out.up hb)
  replace H77 := Lib.hid (H77.out.up hb)
  replace H83 := Lib.hid (H83.out.up hb)
  replace H85 := Lib.hid (H85.out.up hb)
  replace HB := Lib.hid (HB.out.trans (hb.mono HB.out.size))
  replace HQ := Lib.hid (Nat.le_trans HQ.out hb.size)
  clear hb
  obtain ⟨k90, i90, x90, A90, n90, c90, B90, m90, d90, rfl⟩ := VAL.shape H90
  replace H90 := Lib.hid H90
  clear Hn
  go_wp2_with fail
  have hC := Close_any (lsT []) w35 _ _ H90.out (Zone.lt _ _) HM.out (Nat.le_of_ble_eq_true (by kernel_rfl))
  rw [show closesV (lsT []) = .tuple #[.string ⟨#[]⟩, .int .i64 130] by kernel_rfl] at hC
  refine hC.mono ?_
  clear hC
  rintro e w36 ⟨rfl, hb⟩
  replace HM := Lib.hid (HM.out.on hb)
  replace hE := Lib.hid (hE.out.up hb)
  replace H73 := Lib.hid (H73.out.up hb)
  replace H75 := Lib.hid (H75.out.up hb)
  replace H77 := Lib.hid (H77.out.up hb)
  replace H83 := Lib.hid (H83.out.up hb)
  replace H85 := Lib.hid (H85.out.up hb)
  replace H90 := Lib.hid (H90.out.up hb)
  replace HB := Lib.hid (HB.out.trans (hb.mono HB.out.size))
  replace HQ := Lib.hid (Nat.le_trans HQ.out hb.size)
  clear hb
  go_wp2_with fail
  have H95 := TSV_new (z := zNew (w.heap.size)) [⟨#[105, 100]⟩] (w36) #[.string ⟨#[105, 100]⟩] 9 1 rfl (zNew_alloc HQ.out)
  have hb0 : Below (w36).heap.size (w36) ((w36).alloc (.cells #[.string ⟨#[105, 100]⟩] 9)) := (Below.refl _ _).alloc (Nat.le_refl _) _
  replace HM := Lib.hid (HM.out.on hb0)
  replace hE := Lib.hid (hE.out.up hb0)
  replace H73 := Lib.hid (H73.out.up hb0)
  replace H75 := Lib.hid (H75.out.up hb0)
  replace H77 := Lib.hid (H77.out.up hb0)
  replace H83 := Lib.hid (H83.out.up hb0)
  replace H85 := Lib.hid (H85.out.up hb0)
  replace H90 := Lib.hid (H90.out.up hb0)
  replace HB := Lib.hid (HB.out.trans (hb0.mono HB.out.size))
  replace HQ := Lib.hid (Nat.le_trans HQ.out hb0.size)
  replace H95 := Lib.hid H95
  clear hb0
  generalize (Value.slice (some ⟨w36.heap.size, 0, none⟩) 1 1) = s95 at *
  generalize ((w36).alloc (.cells #[.string ⟨#[105, 100]⟩] 9)) = w37 at *
  refine (mNumber (zNew (w.heap.size)) ⟨#[55]⟩ w37).mono ?_
  rintro e w38 ⟨v96, rfl, H96, hb⟩
  replace HM := Lib.hid (HM.out.on hb)
  replace hE := Lib.hid (hE.out.up hb)
  replace H73 := Lib.hid (H73.out.up hb)
  replace H75 := Lib.hid (H75.out.up hb)
  replace H77 := Lib.hid (H77.out.up hb)
  replace H83 := Lib.hid (H83.out.up hb)
  replace H85 := Lib.hid (H85.out.up hb)
  replace H90 := Lib.hid (H90.out.up hb)
  replace H95 := Lib.hid (H95.out.up hb)
  replace HB := Lib.hid (HB.out.trans (hb.mono HB.out.size))
  replace HQ := Lib.hid (Nat.le_trans HQ.out hb.size)
  clear hb
  obtain ⟨k96, i96, x96, A96, n96, c96, B96, m96, d96, rfl⟩ := VAL.shape H96
  replace H96 := Lib.hid H96
  go_wp2_with fail
  have H97 := VSV_new (z := zNew (w.heap.size)) [(nmT ⟨#[55]⟩)] (w38) #[.int .i64 k96, .bool i96, .string x96, .slice A96 n96 c96, .slice B96 m96 d96] 25 1 (VR.cons H96.out (VR.none _ _)) (zNew_alloc HQ.out)
  have hb0 : Below (w38).heap.size (w38) ((w38).alloc (.cells #[.int .i64 k96, .bool i96, .string x96, .slice A96 n96 c96, .slice B96 m96 d96] 25)) := (Below.refl _ _).alloc (Nat.le_refl _) _
  replace HM := Lib.hid (HM.out.on hb0)
  replace hE := Lib.hid (hE.out.up hb0)
  replace H73 := Lib.hid (H73.out.up hb0)
  replace H75 := Lib.hid (H75.out.up hb0)
  replace H77 := Lib.hid (H77.out.up hb0)
  replace H83 := Lib.hid (H83.out.up hb0)
  replace H85 := Lib.hid (H85.out.up hb0)
  replace H90 := Lib.hid (H90.out.up hb0)
  replace H95 := Lib.hid (H95.out.up hb0)
  replace H96 := Lib.hid (H96.out.up hb0)
  replace HB := Lib.hid (HB.out.trans (hb0.mono HB.out.size))
  replace HQ := Lib.hid (Nat.le_trans HQ.out hb0.size)
  replace H97 := Lib.hid H97
  clear hb0
  generalize (Value.slice (some ⟨w38.heap.size, 0, none⟩) 1 1) = s97 at *
  generalize ((w38).alloc (.cells #[.int .i64 k96, .bool i96, .string x96, .slice A96 n96 c96, .slice B96 m96 d96] 25)) = w39 at *
  refine (mObject H95.out H97.out).mono ?_
  rintro e w40 ⟨v98, rfl, H98, hb⟩
  replace HM := Lib.hid (HM.out.on hb)
  replace hE := Lib.hid (hE.out.up hb)
  replace H73 := Lib.hid (H73.out.up hb)
  replace H75 := Lib.hid (H75.out.up hb)
  replace H77 := Lib.hid (H77.out.up hb)
  replace H83 := Lib.hid (H83.out.up hb)
  replace H85 := Lib.hid (H85.out.up hb)
  replace H90 := Lib.hid (H90.out.up hb)
  replace H95 := Lib.hid (H95.out.up hb)
  replace H96 := Lib.hid (H96.out.up hb)
  replace H97 := Lib.hid (H97.out.up hb)
  replace HB := Lib.hid (HB.out.trans (hb.mono HB.out.size))
  replace HQ := Lib.hid (Nat.le_trans HQ.out hb.size)
  clear hb
  obtain ⟨k98, i98, x98, A98, n98, c98, B98, m98, d98, rfl⟩ := VAL.shape H98
  replace H98 := Lib.hid H98
  clear H97 H95
  go_wp2_with fail
  have hC := Cancel_any cancelT w40 _ _ H98.out (Zone.lt _ _) HM.out (Nat.le_of_ble_eq_true (by kernel_rfl))
  refine hC.mono ?_
  clear hC
  rintro e w41 hC
  obtain ⟨iA, ia, ib, iB, ic, id, rfl, hb⟩ := cancelT_lit hC
  clear hC
  replace HM := Lib.hid (HM.out.on hb)
  replace hE := Lib.hid (hE.out.up hb)
  replace H73 := Lib.hid (H73.out.up hb)
  replace H75 := Lib.hid (H75.out.up hb)
  replace H77 := Lib.hid (H77.out.up hb)
  replace H83 := Lib.hid (H83.out.up hb)
  replace H85 := Lib.hid (H85.out.up hb)
  replace H90 := Lib.hid (H90.out.up hb)
  replace H96 := Lib.hid (H96.out.up hb)
  replace H98 := Lib.hid (H98.out.up hb)
  replace HB := Lib.hid (HB.out.trans (hb.mono HB.out.size))
  replace HQ := Lib.hid (Nat.le_trans HQ.out hb.size)
  clear hb
  go_upto_region 10 with (fail)
  have Hg4 := BX.new (w41) (.int .i64 2) (.bool false) (.string ⟨#[55]⟩) (.slice iA ia ib) (.slice iB ic id)
  have hb0 : Below (w41).heap.size (w41) ((w41).alloc (.cells #[.int .i64 2, .bool false, .string ⟨#[55]⟩, .slice iA ia ib, .slice iB ic id] 25)) := (Below.refl _ _).alloc (Nat.le_refl _) _
  replace HM := Lib.hid (HM.out.on hb0)
  replace hE := Lib.hid (hE.out.up hb0)
  replace H73 := Lib.hid (H73.out.up hb0)
  replace H75 := Lib.hid (H75.out.up hb0)
  replace H77 := Lib.hid (H77.out.up hb0)
  replace H83 := Lib.hid (H83.out.up hb0)
  replace H85 := Lib.hid (H85.out.up hb0)
  replace H90 := Lib.hid (H90.out.up hb0)
  replace H96 := Lib.hid (H96.out.up hb0)
  replace H98 := Lib.hid (H98.out.up hb0)
  replace HB := Lib.hid (HB.out.trans (hb0.mono HB.out.size))
  replace HQ := Lib.hid (Nat.le_trans HQ.out hb0.size)
  replace Hg4 := Lib.hid Hg4
  clear hb0
  generalize ((w41).alloc (.cells #[.int .i64 2, .bool false, .string ⟨#[55]⟩, .slice iA ia ib, .slice iB ic id] 25)) = w42 at *
  have HC := EZ.two hE.out
  obtain ⟨eb, eo, rfl, c0, c1, c2, c3, c4, c5, d0, d1, d2, d3, d4, d5⟩ := HC
  have y2 := Hg4.out.c2
  go_wp2
  go_ret
  exact ⟨rfl, HB.out⟩
end Go.Proofs.YtfploakafbnigaaGreatDoor
