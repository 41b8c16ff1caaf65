/-
  Joined texts: ParOddPlain.
-/
import Derived.Test.YtfploakafbnigaaGreatDoorPkNb
import Derived.Test.YtfploakafbnigaaGreatDoorPkNumC
import Derived.Test.YtfploakafbnigaaGreatDoorPkValA
import Derived.Test.YtfploakafbnigaaGreatDoorPkParA
namespace Go.Proofs.YtfploakafbnigaaGreatDoor
open Go.RowKit Val Num
set_option linter.unusedVariables false
set_option linter.unusedSimpArgs false
/-- a whole number's text, with a sign, a point and a power behind it or none -/
theorem of_text' (n : Nat) : ofS (textS n) = some (wval n false) := by
  have := of_val (g := []) (a := textS n) (f := []) (x := []) (.inl rfl) (textS_headF n) (.inl rfl) (.inl rfl) (by decide)
  simp only [List.nil_append, List.append_nil, List.drop_nil] at this
  rw [this]; rfl
theorem of_minus' (n : Nat) : ofS (45 :: textS n) = some (wval n true) := by
  have := of_val (g := [45]) (a := textS n) (f := []) (x := []) (.inr rfl) (textS_headF n) (.inl rfl) (.inl rfl) (by decide)
  simp only [List.append_nil, List.drop_nil] at this
  rw [show (45 : UInt8) :: textS n = [45] ++ textS n from rfl, this]; rfl
theorem int_numS (v : Int) : Num.int (numS v) = if v.natAbs < 9007199254740992 then (v, true) else (0, false) := by
  unfold numS Num.int
  by_cases h : v < 0
  · rw [if_pos h, of_minus']
    by_cases h2 : v.natAbs < 9007199254740992
    · rw [if_pos h2]; show intV (wval _ true) = _; rw [int_whole h2]; simp; omega
    · rw [if_neg h2]; show intV (wval _ true) = _; rw [int_big (by omega)]
  · rw [if_neg h, of_text']
    by_cases h2 : v.natAbs < 9007199254740992
    · rw [if_pos h2]; show intV (wval _ false) = _; rw [int_whole h2]; simp; omega
    · rw [if_neg h2]; show intV (wval _ false) = _; rw [int_big (by omega)]
/-- the law's document: a name, a number, a text -/
def oddD (s x : ByteArray) : VT := obT [VT.uriN, VT.versionN, VT.textN] [txT s, nmT x, txT ⟨#[116]⟩]
def oddP (s x : ByteArray) : VT := obT [VT.tdN] [oddD s x]
theorem odd_uriOk (s x : ByteArray) : (oddP s x).uriOk = VT.lenOk s ∧ (oddP s x).uri = s := ⟨by
  show (true && true && VT.lenOk s) = VT.lenOk s
  rfl, rfl⟩
theorem odd_openOk (s x : ByteArray) : (oddP s x).openOk = (VT.lenOk s && VT.inR (Num.int x.data.toList) 9007199254740991) := by
  show ((oddP s x).uriOk && (true && VT.inR (Num.int x.data.toList) 9007199254740991) && true) = _
  rw [(odd_uriOk s x).1]
  simp
theorem odd_rest (s x : ByteArray) : (oddP s x).doc.wholeN VT.versionN = (Num.int x.data.toList).1 ∧ (oddP s x).doc.textOf VT.textN = ⟨#[116]⟩ := ⟨rfl, rfl⟩
theorem odd_opens (s : ByteArray) (v : Int) : opensV (oddP s (bs (numS v))) = if (decide (1 ≤ s.size) && decide (s.size ≤ 256)) && decide (0 ≤ v) && decide (v ≤ 9007199254740991) then .tuple #[.string s, .int .i64 v, .string ⟨#[116]⟩, .int .i64 0] else .tuple #[.string ⟨#[]⟩, .int .i64 0, .string ⟨#[]⟩, .int .i64 130] := by
  unfold opensV
  rw [odd_openOk, (odd_uriOk _ _).2, (odd_rest _ _).1, (odd_rest _ _).2]
  rw [show (bs (numS v)).data.toList = numS v from by simp [bs], int_numS]
  unfold VT.inR VT.lenOk
  by_cases h : v.natAbs < 9007199254740992
  · rw [if_pos h]
    simp only [Bool.true_and, Bool.and_assoc]
  · rw [if_neg h]
    have : (decide (0 ≤ v) && decide (v ≤ 9007199254740991)) = false := by
      rw [Bool.and_eq_false_iff]
      simp only [decide_eq_false_iff_not]
      omega
    have hb : ∀ b : Bool, (b && decide (0 ≤ v) && decide (v ≤ 9007199254740991)) = false := fun b => by rw [Bool.and_assoc, this]; simp
    rw [hb]
    simp
theorem odd_half (s : ByteArray) : opensV (oddP s ⟨#[49, 46, 53]⟩) = .tuple #[.string ⟨#[]⟩, .int .i64 0, .string ⟨#[]⟩, .int .i64 130] := by
  unfold opensV
  rw [odd_openOk, show Num.int (ByteArray.mk #[49, 46, 53]).data.toList = (0, false) by kernel_rfl]
  simp [VT.inR]
theorem odd_closes (s x : ByteArray) : closesV (oddP s x) = if decide (1 ≤ s.size) && decide (s.size ≤ 256) then .tuple #[.string s, .int .i64 0] else .tuple #[.string ⟨#[]⟩, .int .i64 130] := by
  unfold closesV
  rw [(odd_uriOk s x).1, (odd_uriOk s x).2]
  rfl
/-- a block, known whole -/
def BL (w : World) (g : Nat) (xs : Array Value) (ty : TypeId) : Prop := w.heap[g]? = some (.cells xs ty (0, 0))
theorem BL.new (w : World) (xs : Array Value) (ty : TypeId) : BL (w.alloc (.cells xs ty)) w.heap.size xs ty := heap_alloc_new w _
theorem BL.on {w w' : World} {g : Nat} {xs : Array Value} {ty : TypeId} (h : BL w g xs ty) (hb : Below w.heap.size w w') : BL w' g xs ty := (hb.block g (Array.getElem?_eq_some_iff.1 h).1).trans h
theorem BL.c {w : World} {g : Nat} {xs : Array Value} {ty : TypeId} (h : BL w g xs ty) (j : Nat) : w.cell? ⟨g, j, none⟩ = xs[j]? := by
  rw [cell_of_row w g j _ _ _ h]
theorem BL.lt {w : World} {g : Nat} {xs : Array Value} {ty : TypeId} (h : BL w g xs ty) : g < w.heap.size := (Array.getElem?_eq_some_iff.1 h).1
theorem BL.TS {w : World} {g : Nat} {xs : Array Value} {ty : TypeId} (h : BL w g xs ty) (l : List ByteArray) (hx : xs = (l.map Value.string).toArray) : TS w (fun b => b < w.heap.size) (some ⟨g, 0, none⟩) l :=
  .inr ⟨g, 0, rfl, h.lt, fun j hj => by rw [Nat.zero_add, h.c, hx]; simp [hj]⟩
theorem BL.VS {w : World} {g : Nat} {xs : Array Value} {ty : TypeId} (h : BL w g xs ty) (l : List VT) (hr : VR w (fun b => b < w.heap.size) xs.toList l.length (fun j => l.getD j .leaf)) : VS w (fun b => b < w.heap.size) (some ⟨g, 0, none⟩) l.length (fun j => l.getD j .leaf) := by
  refine .inr ⟨g, 0, rfl, h.lt, fun j hj => ?_⟩
  obtain ⟨v0, v1, v2, v3, v4, e0, e1, e2, e3, e4, hv⟩ := hr.2 j hj
  have k : ∀ k u, xs.toList[k]? = some u → w.cell? ⟨g, 0 + k, none⟩ = some u := fun k u hk => by rw [Nat.zero_add, h.c, ← Array.getElem?_toList]; exact hk
  exact ⟨v0, v1, v2, v3, v4, ⟨k _ _ e0, by rw [Nat.add_assoc]; exact k _ _ e1, by rw [Nat.add_assoc]; exact k _ _ e2, by rw [Nat.add_assoc]; exact k _ _ e3, by rw [Nat.add_assoc]; exact k _ _ e4⟩, hv⟩
/-- the law's value, out of its four blocks -/
theorem odd_VAL {w : World} {g34 g40 g42 g44 : Nat} {ty ty' : TypeId} {s x : ByteArray}
    (h34 : BL w g34 #[.string VT.uriN, .string VT.versionN, .string VT.textN] ty) (h40 : BL w g40 #[.int .i64 3, .bool false, .string s, .slice none 0 0, .slice none 0 0, .int .i64 2, .bool false, .string x, .slice none 0 0, .slice none 0 0, .int .i64 3, .bool false, .string ⟨#[116]⟩, .slice none 0 0, .slice none 0 0] ty')
    (h42 : BL w g42 #[.string VT.tdN] ty) (h44 : BL w g44 #[.int .i64 5, .bool false, .string ⟨#[]⟩, .slice (some ⟨g40, 0, none⟩) 3 3, .slice (some ⟨g34, 0, none⟩) 3 3] ty') :
    VAL w (fun b => b < w.heap.size) (oddP s x) (.agg #[.int .i64 5, .bool false, .string ⟨#[]⟩, .slice (some ⟨g44, 0, none⟩) 1 1, .slice (some ⟨g42, 0, none⟩) 1 1]) := by
  have hd : VAL w (fun b => b < w.heap.size) (oddD s x) (.agg #[.int .i64 5, .bool false, .string ⟨#[]⟩, .slice (some ⟨g40, 0, none⟩) 3 3, .slice (some ⟨g34, 0, none⟩) 3 3]) :=
    VAL.shut (by decide) (h34.TS [VT.uriN, VT.versionN, VT.textN] rfl) (h40.VS [txT s, nmT x, txT ⟨#[116]⟩] (VR.cons (VAL.shut (by decide) (.inl rfl) (.inl rfl)) (VR.cons (VAL.shut (by decide) (.inl rfl) (.inl rfl)) (VR.cons (VAL.shut (by decide) (.inl rfl) (.inl rfl)) (VR.none _ _)))))
  exact VAL.shut (by decide) (h42.TS [VT.tdN] rfl) (h44.VS [oddD s x] (VR.cons hd (VR.none _ _)))
theorem numS_len (v : Int) (h : v.natAbs ≤ 9223372036854775807) : (bs (numS v)).size ≤ 20 := by
  rw [bs_size]
  have := textS_len v.natAbs 18 (by omega)
  unfold numS
  split
  · simp only [List.length_cons]; omega
  · omega
theorem odd_bulk1 (s x : ByteArray) : (oddP s x).bulk = s.size + x.size + 40 := by
  show 1 + 0 + 1 + 1 + 12 + (0 + (1 + 0 + 3 + 3 + (3 + (7 + (4 + 0))) + (0 + (1 + s.size + 0 + 0 + 0 + 0) + (1 + x.size + 0 + 0 + 0 + 0) + (1 + 1 + 0 + 0 + 0 + 0)))) = _
  omega
theorem odd_bulk (s : ByteArray) (v : Int) (h : v.natAbs ≤ 9223372036854775807) : (oddP s (bs (numS v))).bulk ≤ s.size + 60 := by
  rw [odd_bulk1]
  have := numS_len v h
  omega
theorem BL.fr {w : World} {g : Nat} {xs : Array Value} {ty : TypeId} (h : BL w g xs ty) (i : Nat) : w.frozen? ⟨g, i, none⟩ = false := by unfold BL at h; simp [World.frozen?, h]
/-- five stores from cell 5 on -/
def putB (w : World) (g : Nat) (u0 u1 u2 u3 u4 : Value) : World := ((((w.setCell ⟨g, 5, none⟩ u0).setCell ⟨g, 6, none⟩ u1).setCell ⟨g, 7, none⟩ u2).setCell ⟨g, 8, none⟩ u3).setCell ⟨g, 9, none⟩ u4
theorem putB_block (w : World) (g : Nat) (u0 u1 u2 u3 u4 : Value) (b : Nat) (hb : b ≠ g) : (putB w g u0 u1 u2 u3 u4).heap[b]? = w.heap[b]? := by
  have k : ∀ (w : World) (p : Addr) (u : Value), b ≠ p.block → (w.setCell p u).heap[b]? = w.heap[b]? := fun w p u h => Below.heap_setCell w p u b h
  unfold putB
  rw [k _ _ _ hb, k _ _ _ hb, k _ _ _ hb, k _ _ _ hb, k _ _ _ hb]
theorem putB_below {B : Nat} {w0 w : World} (h : Below B w0 w) (g : Nat) (u0 u1 u2 u3 u4 : Value) (hg : B ≤ g) : Below B w0 (putB w g u0 u1 u2 u3 u4) :=
  ((((h.setCell (p := ⟨g, 5, none⟩) hg u0).setCell (p := ⟨g, 6, none⟩) hg u1).setCell (p := ⟨g, 7, none⟩) hg u2).setCell (p := ⟨g, 8, none⟩) hg u3).setCell (p := ⟨g, 9, none⟩) hg u4
theorem BL.putB {w : World} {g : Nat} {ty : TypeId} {a0 a1 a2 a3 a4 b0 b1 b2 b3 b4 c0 c1 c2 c3 c4 : Value} (h : BL w g #[a0, a1, a2, a3, a4, b0, b1, b2, b3, b4, c0, c1, c2, c3, c4] ty) (u0 u1 u2 u3 u4 : Value) : BL (putB w g u0 u1 u2 u3 u4) g #[a0, a1, a2, a3, a4, u0, u1, u2, u3, u4, c0, c1, c2, c3, c4] ty := by
  unfold BL at h ⊢
  unfold Proofs.YtfploakafbnigaaGreatDoor.putB
  simp [World.setCell, Array.getElem?_modify, h]
end Go.Proofs.YtfploakafbnigaaGreatDoor
