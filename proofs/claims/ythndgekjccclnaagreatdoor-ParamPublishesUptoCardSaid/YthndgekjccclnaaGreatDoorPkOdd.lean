/-
  ParamOdd: its walk, its row and its card: for every input of bulk at most 1048576 the statement returns true; its argument reads as it did.
-/
import Derived.Test.YthndgekjccclnaaGreatDoorPkParC
import Derived.Test.YthndgekjccclnaaGreatDoorPkNumC
import Derived.Test.YthndgekjccclnaaGreatDoorPkNumA
import Derived.Test.YthndgekjccclnaaGreatDoorPkValA
import Derived.Test.YthndgekjccclnaaGreatDoorPkParA
import Derived.Test.YthndgekjccclnaaGreatDoorPkRow
import Derived.ShutString
import Derived.ChangeMaps5
namespace Go.Proofs.YthndgekjccclnaaGreatDoor
open Go.RowKit Val Num
set_option linter.unusedVariables false
set_option linter.unusedSimpArgs false
set_option maxRecDepth 100000 in
set_option maxHeartbeats 1000000 in
theorem refDigits_any (n : Nat) (w : World) (hn : n ≤ 9223372036854775807) :
    Calls Tryz.prog 80 #[.int .i64 (-(n : Int))] w fun e w' => e = .returned (.string (bs (textS n))) ∧ Below w.heap.size w w' := by
  induction n using Nat.strongRecOn generalizing w with
  | ind n ih =>
  have q1 : (-(n : Int)).tmod 10 = -((n : Int) % 10) := by rw [Int.neg_tmod, Int.tmod_eq_emod_of_nonneg (by omega)]
  have q2 : (-(n : Int)).tdiv 10 = -((n / 10 : Nat) : Int) := by rw [Int.neg_tdiv, Int.tdiv_eq_ediv_of_nonneg (by omega)]; omega
  have q3 : IntKind.i64.wrap (48 - -((n : Int) % 10)) = 48 + (n : Int) % 10 := by rw [show (48 : Int) - -((n : Int) % 10) = 48 + (n : Int) % 10 by omega]; exact wrap_small _ (by omega) (by omega)
  have q4 : IntKind.u8.wrap (48 + (n : Int) % 10) = 48 + (n : Int) % 10 := by show (48 + (n : Int) % 10) % 256 = _; omega
  have q5 : IntKind.i64.wrap (-((n / 10 : Nat) : Int)) = -((n / 10 : Nat) : Int) := by rw [IntKind.wrap_i64]; omega
  have hcv := conv_one (48 + n % 10) (48 + (n : Int) % 10) (by omega) (by omega)
  rw [← asc_eq] at hcv
  by_cases h : n < 10
  · have h0 : decide (-10 < -(n : Int)) = true := by simp; omega
    rw [textS_small h]
    have hq : n % 10 = n := Nat.mod_eq_of_lt h
    rw [hq] at hcv
    clear ih
    go_enter Tryz.func80, Tryz.ntmps80
    go_wp2
    go_ret
    exact ⟨rfl, (Below.refl _ _).alloc (Nat.le_refl _) _⟩
  · have h0 : decide (-10 < -(n : Int)) = false := by simp; omega
    have IH := Lib.hid (fun W => ih (n / 10) (by omega) W (by omega))
    rw [textS_great h]
    have hcat : (bs (textS (n / 10))).size + (bs [asc (n % 10)]).size ≤ 9223372036854775807 := by
      rw [bs_size, bs_size]
      have := textS_len (n / 10) 18 (by omega)
      simp only [List.length_cons, List.length_nil]; omega
    have HA : Hid (bs (textS (n / 10)) ++ bs [asc (n % 10)] = bs (textS (n / 10) ++ [asc (n % 10)])) := Lib.hid (ByteArray.mk_append_mk _ _)
    clear ih
    go_enter Tryz.func80, Tryz.ntmps80
    go_wp2_with fail
    refine (IH.out _).mono ?_
    rintro e w' ⟨rfl, hb⟩
    have HB := Lib.hid (((Below.refl w.heap.size w).alloc (Nat.le_refl _) _).trans (hb.mono (by simp)))
    clear hb
    go_wp2
    go_ret
    exact ⟨by rw [HA.out]; rfl, HB.out⟩
/-- the text of a number -/
def numS (v : Int) : List UInt8 := if v < 0 then 45 :: textS v.natAbs else textS v.natAbs
set_option maxRecDepth 100000 in
set_option maxHeartbeats 1000000 in
theorem refNumber_any (v : Int) (w : World) (hv : -9223372036854775807 ≤ v ∧ v ≤ 9223372036854775807) :
    Calls Tryz.prog 34 #[.int .i64 v] w (Made (.agg #[.int .i64 2, .bool false, .string (bs (numS v)), .slice none 0 0, .slice none 0 0]) w) := by
  have HB := Lib.hid ((Below.refl w.heap.size w).alloc (Nat.le_refl _) (.cells #[.int .i64 0, .bool false, .string ⟨#[]⟩, .slice none 0 0, .slice none 0 0] 30))
  have HY := Lib.hid (BX.new w (.int .i64 0) (.bool false) (.string ⟨#[]⟩) (.slice none 0 0) (.slice none 0 0))
  have HS : Hid ((w.alloc (.cells #[.int .i64 0, .bool false, .string ⟨#[]⟩, .slice none 0 0, .slice none 0 0] 30)).heap.size = w.heap.size + 1) := Lib.hid (by simp)
  by_cases h : v < 0
  · have h0 : decide (v < 0) = true := by simp; omega
    have HD := Lib.hid (fun W => refDigits_any v.natAbs W (by omega))
    rw [show -(v.natAbs : Int) = v by omega] at HD
    have hcat : (ByteArray.mk #[45]).size + (bs (textS v.natAbs)).size ≤ 9223372036854775807 := by
      rw [bs_size]
      have := textS_len v.natAbs 18 (by omega)
      have : (ByteArray.mk #[45]).size = 1 := rfl
      omega
    have HA : Hid (ByteArray.mk #[45] ++ bs (textS v.natAbs) = bs (numS v)) := Lib.hid (by unfold numS; rw [if_pos h]; exact ByteArray.mk_append_mk _ _)
    go_enter Tryz.func34, Tryz.ntmps34
    go_wp2_with fail
    refine (HD.out _).mono ?_
    rintro e w1 ⟨rfl, hb⟩
    have HB1 := Lib.hid (HB.out.trans (hb.mono HB.out.size))
    have hy := HY.out.on hb
    have y0 := hy.c0
    have y1 := hy.c1
    have y2 := hy.c2
    have y3 := hy.c3
    have y4 := hy.c4
    have f0 := hy.fr 0
    have f1 := hy.fr 1
    have f2 := hy.fr 2
    have f3 := hy.fr 3
    have f4 := hy.fr 4
    have hres := hy.put (.int .i64 2) (.bool false) (.string (ByteArray.mk #[45] ++ bs (textS v.natAbs))) (.slice none 0 0) (.slice none 0 0)
    have r0 := hres.c0
    have r1 := hres.c1
    have r2 := hres.c2
    have r3 := hres.c3
    have r4 := hres.c4
    clear hb hy hres
    go_wp2
    exact bodyPost_ret (v := .agg #[.int .i64 2, .bool false, .string (ByteArray.mk #[45] ++ bs (textS v.natAbs)), .slice none 0 0, .slice none 0 0]) (by simp [results, Tryz.results34, go_sem, r0, r1, r2, r3, r4]) rfl ⟨by rw [HA.out], five_below HB1.out w.heap.size _ _ _ _ _ (Nat.le_refl _)⟩
  · have h0 : decide (v < 0) = false := by simp; omega
    have HD := Lib.hid (fun W => refDigits_any v.natAbs W (by omega))
    rw [show (v.natAbs : Int) = v by omega] at HD
    have hn : IntKind.i64.wrap (-v) = -v := by rw [IntKind.wrap_i64]; omega
    have HA : Hid (bs (textS v.natAbs) = bs (numS v)) := Lib.hid (by unfold numS; rw [if_neg h])
    go_enter Tryz.func34, Tryz.ntmps34
    go_wp2_with fail
    refine (HD.out _).mono ?_
    rintro e w1 ⟨rfl, hb⟩
    have HB1 := Lib.hid (HB.out.trans (hb.mono HB.out.size))
    have hy := HY.out.on hb
    have y0 := hy.c0
    have y1 := hy.c1
    have y2 := hy.c2
    have y3 := hy.c3
    have y4 := hy.c4
    have f0 := hy.fr 0
    have f1 := hy.fr 1
    have f2 := hy.fr 2
    have f3 := hy.fr 3
    have f4 := hy.fr 4
    have hres := hy.put (.int .i64 2) (.bool false) (.string (bs (textS v.natAbs))) (.slice none 0 0) (.slice none 0 0)
    have r0 := hres.c0
    have r1 := hres.c1
    have r2 := hres.c2
    have r3 := hres.c3
    have r4 := hres.c4
    clear hb hy hres
    go_wp2
    exact bodyPost_ret (v := .agg #[.int .i64 2, .bool false, .string (bs (textS v.natAbs)), .slice none 0 0, .slice none 0 0]) (by simp [results, Tryz.results34, go_sem, r0, r1, r2, r3, r4]) rfl ⟨by rw [HA.out], five_below HB1.out w.heap.size _ _ _ _ _ (Nat.le_refl _)⟩
end Go.Proofs.YthndgekjccclnaaGreatDoor
namespace Go.Proofs.YthndgekjccclnaaGreatDoor
open Go.RowKit Val Num
set_option linter.unusedVariables false
set_option linter.unusedSimpArgs false
/-- a whole number's text, with a sign, a point and a power behind it or none -/
theorem of_text' (n : Nat) : ofS (textS n) = some (wval n false) := by
  have := of_val (g := []) (a := textS n) (f := []) (x := []) (.inl rfl) (textS_headF n) (.inl rfl) (.inl rfl) (by decide)
  simp only [List.nil_append, List.append_nil, List.drop_nil] at this
  rw [this]; rfl
theorem of_minus' (n : Nat) : ofS (45 :: textS n) = some (wval n true) := by
  have := of_val (g := [45]) (a := textS n) (f := []) (x := []) (.inr rfl) (textS_headF n) (.inl rfl) (.inl rfl) (by decide)
  simp only [List.append_nil, List.drop_nil] at this
  rw [show (45 : UInt8) :: textS n = [45] ++ textS n from rfl, this]; rfl
theorem int_numS (v : Int) : Num.int (numS v) = if v.natAbs < 9007199254740992 then (v, true) else (0, false) := by
  unfold numS Num.int
  by_cases h : v < 0
  · rw [if_pos h, of_minus']
    by_cases h2 : v.natAbs < 9007199254740992
    · rw [if_pos h2]; show intV (wval _ true) = _; rw [int_whole h2]; simp; omega
    · rw [if_neg h2]; show intV (wval _ true) = _; rw [int_big (by omega)]
  · rw [if_neg h, of_text']
    by_cases h2 : v.natAbs < 9007199254740992
    · rw [if_pos h2]; show intV (wval _ false) = _; rw [int_whole h2]; simp; omega
    · rw [if_neg h2]; show intV (wval _ false) = _; rw [int_big (by omega)]
/-- the law's document: a name, a number, a text -/
def oddD (s x : ByteArray) : VT := obT [VT.uriN, VT.versionN, VT.textN] [txT s, nmT x, txT ⟨#[116]⟩]
def oddP (s x : ByteArray) : VT := obT [VT.tdN] [oddD s x]
theorem odd_uriOk (s x : ByteArray) : (oddP s x).uriOk = VT.lenOk s ∧ (oddP s x).uri = s := ⟨by
  show (true && true && VT.lenOk s) = VT.lenOk s
  rfl, rfl⟩
theorem odd_openOk (s x : ByteArray) : (oddP s x).openOk = (VT.lenOk s && VT.inR (Num.int x.data.toList) 9007199254740991) := by
  show ((oddP s x).uriOk && (true && VT.inR (Num.int x.data.toList) 9007199254740991) && true) = _
  rw [(odd_uriOk s x).1]
  simp
theorem odd_rest (s x : ByteArray) : (oddP s x).doc.wholeN VT.versionN = (Num.int x.data.toList).1 ∧ (oddP s x).doc.textOf VT.textN = ⟨#[116]⟩ := ⟨rfl, rfl⟩
theorem odd_opens (s : ByteArray) (v : Int) : opensV (oddP s (bs (numS v))) = if (decide (1 ≤ s.size) && decide (s.size ≤ 256)) && decide (0 ≤ v) && decide (v ≤ 9007199254740991) then .tuple #[.string s, .int .i64 v, .string ⟨#[116]⟩, .int .i64 0] else .tuple #[.string ⟨#[]⟩, .int .i64 0, .string ⟨#[]⟩, .int .i64 130] := by
  unfold opensV
  rw [odd_openOk, (odd_uriOk _ _).2, (odd_rest _ _).1, (odd_rest _ _).2]
  rw [show (bs (numS v)).data.toList = numS v from by simp [bs], int_numS]
  unfold VT.inR VT.lenOk
  by_cases h : v.natAbs < 9007199254740992
  · rw [if_pos h]
    simp only [Bool.true_and, Bool.and_assoc]
  · rw [if_neg h]
    have : (decide (0 ≤ v) && decide (v ≤ 9007199254740991)) = false := by
      rw [Bool.and_eq_false_iff]
      simp only [decide_eq_false_iff_not]
      omega
    have hb : ∀ b : Bool, (b && decide (0 ≤ v) && decide (v ≤ 9007199254740991)) = false := fun b => by rw [Bool.and_assoc, this]; simp
    rw [hb]
    simp
theorem odd_half (s : ByteArray) : opensV (oddP s ⟨#[49, 46, 53]⟩) = .tuple #[.string ⟨#[]⟩, .int .i64 0, .string ⟨#[]⟩, .int .i64 130] := by
  unfold opensV
  rw [odd_openOk, show Num.int (ByteArray.mk #[49, 46, 53]).data.toList = (0, false) by kernel_rfl]
  simp [VT.inR]
theorem odd_closes (s x : ByteArray) : closesV (oddP s x) = if decide (1 ≤ s.size) && decide (s.size ≤ 256) then .tuple #[.string s, .int .i64 0] else .tuple #[.string ⟨#[]⟩, .int .i64 130] := by
  unfold closesV
  rw [(odd_uriOk s x).1, (odd_uriOk s x).2]
  rfl
/-- a block, known whole -/
def BL (w : World) (g : Nat) (xs : Array Value) (ty : TypeId) : Prop := w.heap[g]? = some (.cells xs ty (0, 0))
theorem BL.new (w : World) (xs : Array Value) (ty : TypeId) : BL (w.alloc (.cells xs ty)) w.heap.size xs ty := heap_alloc_new w _
theorem BL.on {w w' : World} {g : Nat} {xs : Array Value} {ty : TypeId} (h : BL w g xs ty) (hb : Below w.heap.size w w') : BL w' g xs ty := (hb.block g (Array.getElem?_eq_some_iff.1 h).1).trans h
theorem BL.c {w : World} {g : Nat} {xs : Array Value} {ty : TypeId} (h : BL w g xs ty) (j : Nat) : w.cell? ⟨g, j, none⟩ = xs[j]? := by
  rw [cell_of_row w g j _ _ _ h]
theorem BL.lt {w : World} {g : Nat} {xs : Array Value} {ty : TypeId} (h : BL w g xs ty) : g < w.heap.size := (Array.getElem?_eq_some_iff.1 h).1
theorem BL.TS {w : World} {g : Nat} {xs : Array Value} {ty : TypeId} (h : BL w g xs ty) (l : List ByteArray) (hx : xs = (l.map Value.string).toArray) : TS w (fun b => b < w.heap.size) (some ⟨g, 0, none⟩) l :=
  .inr ⟨g, 0, rfl, h.lt, fun j hj => by rw [Nat.zero_add, h.c, hx]; simp [hj]⟩
theorem BL.VS {w : World} {g : Nat} {xs : Array Value} {ty : TypeId} (h : BL w g xs ty) (l : List VT) (hr : VR w (fun b => b < w.heap.size) xs.toList l.length (fun j => l.getD j .leaf)) : VS w (fun b => b < w.heap.size) (some ⟨g, 0, none⟩) l.length (fun j => l.getD j .leaf) := by
  refine .inr ⟨g, 0, rfl, h.lt, fun j hj => ?_⟩
  obtain ⟨v0, v1, v2, v3, v4, e0, e1, e2, e3, e4, hv⟩ := hr.2 j hj
  have k : ∀ k u, xs.toList[k]? = some u → w.cell? ⟨g, 0 + k, none⟩ = some u := fun k u hk => by rw [Nat.zero_add, h.c, ← Array.getElem?_toList]; exact hk
  exact ⟨v0, v1, v2, v3, v4, ⟨k _ _ e0, by rw [Nat.add_assoc]; exact k _ _ e1, by rw [Nat.add_assoc]; exact k _ _ e2, by rw [Nat.add_assoc]; exact k _ _ e3, by rw [Nat.add_assoc]; exact k _ _ e4⟩, hv⟩
/-- the law's value, out of its four blocks -/
theorem odd_VAL {w : World} {g34 g40 g42 g44 : Nat} {ty ty' : TypeId} {s x : ByteArray}
    (h34 : BL w g34 #[.string VT.uriN, .string VT.versionN, .string VT.textN] ty) (h40 : BL w g40 #[.int .i64 3, .bool false, .string s, .slice none 0 0, .slice none 0 0, .int .i64 2, .bool false, .string x, .slice none 0 0, .slice none 0 0, .int .i64 3, .bool false, .string ⟨#[116]⟩, .slice none 0 0, .slice none 0 0] ty')
    (h42 : BL w g42 #[.string VT.tdN] ty) (h44 : BL w g44 #[.int .i64 5, .bool false, .string ⟨#[]⟩, .slice (some ⟨g40, 0, none⟩) 3 3, .slice (some ⟨g34, 0, none⟩) 3 3] ty') :
    VAL w (fun b => b < w.heap.size) (oddP s x) (.agg #[.int .i64 5, .bool false, .string ⟨#[]⟩, .slice (some ⟨g44, 0, none⟩) 1 1, .slice (some ⟨g42, 0, none⟩) 1 1]) := by
  have hd : VAL w (fun b => b < w.heap.size) (oddD s x) (.agg #[.int .i64 5, .bool false, .string ⟨#[]⟩, .slice (some ⟨g40, 0, none⟩) 3 3, .slice (some ⟨g34, 0, none⟩) 3 3]) :=
    VAL.shut (by decide) (h34.TS [VT.uriN, VT.versionN, VT.textN] rfl) (h40.VS [txT s, nmT x, txT ⟨#[116]⟩] (VR.cons (VAL.shut (by decide) (.inl rfl) (.inl rfl)) (VR.cons (VAL.shut (by decide) (.inl rfl) (.inl rfl)) (VR.cons (VAL.shut (by decide) (.inl rfl) (.inl rfl)) (VR.none _ _)))))
  exact VAL.shut (by decide) (h42.TS [VT.tdN] rfl) (h44.VS [oddD s x] (VR.cons hd (VR.none _ _)))
theorem numS_len (v : Int) (h : v.natAbs ≤ 9223372036854775807) : (bs (numS v)).size ≤ 20 := by
  rw [bs_size]
  have := textS_len v.natAbs 18 (by omega)
  unfold numS
  split
  · simp only [List.length_cons]; omega
  · omega
theorem odd_bulk1 (s x : ByteArray) : (oddP s x).bulk = s.size + x.size + 40 := by
  show 1 + 0 + 1 + 1 + 12 + (0 + (1 + 0 + 3 + 3 + (3 + (7 + (4 + 0))) + (0 + (1 + s.size + 0 + 0 + 0 + 0) + (1 + x.size + 0 + 0 + 0 + 0) + (1 + 1 + 0 + 0 + 0 + 0)))) = _
  omega
theorem odd_bulk (s : ByteArray) (v : Int) (h : v.natAbs ≤ 9223372036854775807) : (oddP s (bs (numS v))).bulk ≤ s.size + 60 := by
  rw [odd_bulk1]
  have := numS_len v h
  omega
theorem BL.fr {w : World} {g : Nat} {xs : Array Value} {ty : TypeId} (h : BL w g xs ty) (i : Nat) : w.frozen? ⟨g, i, none⟩ = false := by unfold BL at h; simp [World.frozen?, h]
/-- five stores from cell 5 on -/
def putB (w : World) (g : Nat) (u0 u1 u2 u3 u4 : Value) : World := ((((w.setCell ⟨g, 5, none⟩ u0).setCell ⟨g, 6, none⟩ u1).setCell ⟨g, 7, none⟩ u2).setCell ⟨g, 8, none⟩ u3).setCell ⟨g, 9, none⟩ u4
theorem putB_block (w : World) (g : Nat) (u0 u1 u2 u3 u4 : Value) (b : Nat) (hb : b ≠ g) : (putB w g u0 u1 u2 u3 u4).heap[b]? = w.heap[b]? := by
  have k : ∀ (w : World) (p : Addr) (u : Value), b ≠ p.block → (w.setCell p u).heap[b]? = w.heap[b]? := fun w p u h => Below.heap_setCell w p u b h
  unfold putB
  rw [k _ _ _ hb, k _ _ _ hb, k _ _ _ hb, k _ _ _ hb, k _ _ _ hb]
theorem putB_below {B : Nat} {w0 w : World} (h : Below B w0 w) (g : Nat) (u0 u1 u2 u3 u4 : Value) (hg : B ≤ g) : Below B w0 (putB w g u0 u1 u2 u3 u4) :=
  ((((h.setCell (p := ⟨g, 5, none⟩) hg u0).setCell (p := ⟨g, 6, none⟩) hg u1).setCell (p := ⟨g, 7, none⟩) hg u2).setCell (p := ⟨g, 8, none⟩) hg u3).setCell (p := ⟨g, 9, none⟩) hg u4
theorem BL.putB {w : World} {g : Nat} {ty : TypeId} {a0 a1 a2 a3 a4 b0 b1 b2 b3 b4 c0 c1 c2 c3 c4 : Value} (h : BL w g #[a0, a1, a2, a3, a4, b0, b1, b2, b3, b4, c0, c1, c2, c3, c4] ty) (u0 u1 u2 u3 u4 : Value) : BL (putB w g u0 u1 u2 u3 u4) g #[a0, a1, a2, a3, a4, u0, u1, u2, u3, u4, c0, c1, c2, c3, c4] ty := by
  unfold BL at h ⊢
  unfold Proofs.YthndgekjccclnaaGreatDoor.putB
  simp [World.setCell, Array.getElem?_modify, h]
end Go.Proofs.YthndgekjccclnaaGreatDoor
namespace Go.Proofs.YthndgekjccclnaaGreatDoor
open Go.RowKit Val Num YthndgekjccclnaaGreatDoorW.PrintLast
set_option linter.unusedVariables false
set_option linter.unusedSimpArgs false
set_option maxRecDepth 100000 in
set_option maxHeartbeats 16000000 in
theorem ParamOdd_walk (a0 a1 : Int) (w : World) (h0 : -9223372036854775808 ≤ a0 ∧ a0 ≤ 9223372036854775807) (h1 : -9223372036854775808 ≤ a1 ∧ a1 ≤ 9223372036854775807) (hM : ML w) :
    Calls Tryz.prog 7 #[.int .i64 a0, .int .i64 a1] w fun e w' => e = .returned (.bool true) ∧ Below w.heap.size w w' := by
  have HB := Lib.hid (Below.refl w.heap.size w)
  have HQ : Hid (0 ≤ w.heap.size) := Lib.hid (Nat.zero_le _)
  have HM := Lib.hid hM
  have HM0 := Lib.hid hM
  have HR := Lib.hid (Bring_any a0 401 w h0 (by omega))
  obtain ⟨n, hn, hn2⟩ : ∃ n : Nat, a0 % 401 = n ∧ n ≤ 400 := ⟨(a0 % 401).toNat, by omega, by omega⟩
  rw [hn] at HR
  obtain ⟨v, hv, HV⟩ : ∃ v : Int, a1.tmod 72057594037927936 = v ∧ Hid (-72057594037927936 < v ∧ v < 72057594037927936) := ⟨_, rfl, Lib.hid (by have := Int.tmod_lt_of_pos a1 (b := 72057594037927936) (by omega); have := Int.lt_tmod_of_pos a1 (b := 72057594037927936) (by omega); omega)⟩
  have HN := Lib.hid hn2
  clear hM hn h0 h1
  go_enter Tryz.func7, Tryz.ntmps7
  go_wp2_with fail
  refine HR.out.mono ?_
  rintro e _ ⟨rfl, rfl⟩
  clear HR
  go_wp2
  go_loopg [6, 7] n (fun k v6 v7 wr => ∃ p : Nat, p + k = n ∧ v7 = .int .i64 p ∧ v6 = .string (bs (List.replicate p 97)) ∧ w = wr)
  case atStart => exact ⟨0, by omega, rfl, rfl, rfl⟩
  case round =>
    obtain ⟨p, hk, rfl, rfl, rfl⟩ := hrel
    have HK := Lib.hid hk
    by_cases hp : p < n
    · have e1 : decide ((p : Int) < (n : Int)) = true := by simp; omega
      have hcat : (bs (List.replicate p 97)).size + (ByteArray.mk #[97]).size ≤ 9223372036854775807 := by rw [bs_size, List.length_replicate, show (ByteArray.mk #[97]).size = 1 from rfl]; omega
      have HA : Hid (bs (List.replicate p 97) ++ ByteArray.mk #[97] = bs (List.replicate (p + 1) 97)) := Lib.hid (by rw [List.replicate_succ']; exact ByteArray.mk_append_mk _ _)
      have hp1 : p ≤ 1000 := by omega
      clear hk hv
      go_wp2
      go_roundg (gk - 1)
      case measure => have := HK.out; omega
      case rel => exact ⟨p + 1, by have := HK.out; omega, by go_num, by rw [← HA.out], rfl⟩
    · obtain rfl : p = n := by omega
      have e1 : decide ((p : Int) < (p : Int)) = false := by simp
      have HS : Hid ((bs (List.replicate p 97)).size = p) := Lib.hid (by rw [bs_size, List.length_replicate])
      clear hk hp
      generalize bs (List.replicate p 97) = s at *
      go_upto_region 8 with (fail)
      clear hv
      go_wp2_with fail
      have H34 := BL.new (w) #[.string ⟨#[117, 114, 105]⟩, .string ⟨#[118, 101, 114, 115, 105, 111, 110]⟩, .string ⟨#[116, 101, 120, 116]⟩] 9
      have hb0 : Below (w).heap.size (w) ((w).alloc (.cells #[.string ⟨#[117, 114, 105]⟩, .string ⟨#[118, 101, 114, 115, 105, 111, 110]⟩, .string ⟨#[116, 101, 120, 116]⟩] 9)) := (Below.refl _ _).alloc (Nat.le_refl _) _
      replace HM := Lib.hid (HM.out.on hb0)
      replace HB := Lib.hid (HB.out.trans (hb0.mono HB.out.size))
      replace HQ := Lib.hid (Nat.le_trans HQ.out hb0.size)
      replace H34 := Lib.hid H34
      clear hb0
      generalize ((w).alloc (.cells #[.string ⟨#[117, 114, 105]⟩, .string ⟨#[118, 101, 114, 115, 105, 111, 110]⟩, .string ⟨#[116, 101, 120, 116]⟩] 9)) = w1 at *
      refine (mText_any s w1).mono ?_
      rintro e w2 ⟨rfl, hb⟩
      replace HM := Lib.hid (HM.out.on hb)
      replace H34 := Lib.hid (H34.out.on hb)
      replace HB := Lib.hid (HB.out.trans (hb.mono HB.out.size))
      replace HQ := Lib.hid (Nat.le_trans HQ.out hb.size)
      clear hb
      go_wp2_with fail
      refine (refNumber_any v w2 (by have := HV.out; omega)).mono ?_
      rintro e w3 ⟨rfl, hb⟩
      replace HM := Lib.hid (HM.out.on hb)
      replace H34 := Lib.hid (H34.out.on hb)
      replace HB := Lib.hid (HB.out.trans (hb.mono HB.out.size))
      replace HQ := Lib.hid (Nat.le_trans HQ.out hb.size)
      clear hb
      go_wp2_with fail
      refine (mText_any ⟨#[116]⟩ w3).mono ?_
      rintro e w4 ⟨rfl, hb⟩
      replace HM := Lib.hid (HM.out.on hb)
      replace H34 := Lib.hid (H34.out.on hb)
      replace HB := Lib.hid (HB.out.trans (hb.mono HB.out.size))
      replace HQ := Lib.hid (Nat.le_trans HQ.out hb.size)
      clear hb
      have N0 := Lib.hid HB.out.size
      have N34 := Lib.hid (Nat.ne_of_lt H34.out.lt)
      go_wp2_with fail
      have H40 := BL.new (w4) #[.int .i64 3, .bool false, .string s, .slice none 0 0, .slice none 0 0, .int .i64 2, .bool false, .string (bs (numS v)), .slice none 0 0, .slice none 0 0, .int .i64 3, .bool false, .string ⟨#[116]⟩, .slice none 0 0, .slice none 0 0] 30
      have hb0 : Below (w4).heap.size (w4) ((w4).alloc (.cells #[.int .i64 3, .bool false, .string s, .slice none 0 0, .slice none 0 0, .int .i64 2, .bool false, .string (bs (numS v)), .slice none 0 0, .slice none 0 0, .int .i64 3, .bool false, .string ⟨#[116]⟩, .slice none 0 0, .slice none 0 0] 30)) := (Below.refl _ _).alloc (Nat.le_refl _) _
      replace HM := Lib.hid (HM.out.on hb0)
      replace H34 := Lib.hid (H34.out.on hb0)
      replace HB := Lib.hid (HB.out.trans (hb0.mono HB.out.size))
      replace HQ := Lib.hid (Nat.le_trans HQ.out hb0.size)
      replace H40 := Lib.hid H40
      clear hb0
      generalize ((w4).alloc (.cells #[.int .i64 3, .bool false, .string s, .slice none 0 0, .slice none 0 0, .int .i64 2, .bool false, .string (bs (numS v)), .slice none 0 0, .slice none 0 0, .int .i64 3, .bool false, .string ⟨#[116]⟩, .slice none 0 0, .slice none 0 0] 30)) = w5 at *
      refine (mObject_any _ _ 3 3 3 3 w5).mono ?_
      rintro e w6 ⟨rfl, hb⟩
      replace HM := Lib.hid (HM.out.on hb)
      replace H34 := Lib.hid (H34.out.on hb)
      replace H40 := Lib.hid (H40.out.on hb)
      replace HB := Lib.hid (HB.out.trans (hb.mono HB.out.size))
      replace HQ := Lib.hid (Nat.le_trans HQ.out hb.size)
      clear hb
      have N40 := Lib.hid H40.out.lt
      go_wp2_with fail
      have Hb9 := BX.new (w6) (.int .i64 5) (.bool false) (.string ⟨#[]⟩) (.slice (some ⟨(w4.heap.size), 0, none⟩) 3 3) (.slice (some ⟨(w.heap.size), 0, none⟩) 3 3)
      have hb0 : Below (w6).heap.size (w6) ((w6).alloc (.cells #[.int .i64 5, .bool false, .string ⟨#[]⟩, .slice (some ⟨(w4.heap.size), 0, none⟩) 3 3, .slice (some ⟨(w.heap.size), 0, none⟩) 3 3] 30)) := (Below.refl _ _).alloc (Nat.le_refl _) _
      replace HM := Lib.hid (HM.out.on hb0)
      replace H34 := Lib.hid (H34.out.on hb0)
      replace H40 := Lib.hid (H40.out.on hb0)
      replace HB := Lib.hid (HB.out.trans (hb0.mono HB.out.size))
      replace HQ := Lib.hid (Nat.le_trans HQ.out hb0.size)
      replace Hb9 := Lib.hid Hb9
      clear hb0
      have H42 := BL.new ((w6).alloc (.cells #[.int .i64 5, .bool false, .string ⟨#[]⟩, .slice (some ⟨(w4.heap.size), 0, none⟩) 3 3, .slice (some ⟨(w.heap.size), 0, none⟩) 3 3] 30)) #[.string ⟨#[116, 101, 120, 116, 68, 111, 99, 117, 109, 101, 110, 116]⟩] 9
      rw [show ((w6).alloc (.cells #[.int .i64 5, .bool false, .string ⟨#[]⟩, .slice (some ⟨(w4.heap.size), 0, none⟩) 3 3, .slice (some ⟨(w.heap.size), 0, none⟩) 3 3] 30)).heap.size = w6.heap.size + 1 by simp] at H42
      have hb1 : Below ((w6).alloc (.cells #[.int .i64 5, .bool false, .string ⟨#[]⟩, .slice (some ⟨(w4.heap.size), 0, none⟩) 3 3, .slice (some ⟨(w.heap.size), 0, none⟩) 3 3] 30)).heap.size ((w6).alloc (.cells #[.int .i64 5, .bool false, .string ⟨#[]⟩, .slice (some ⟨(w4.heap.size), 0, none⟩) 3 3, .slice (some ⟨(w.heap.size), 0, none⟩) 3 3] 30)) (((w6).alloc (.cells #[.int .i64 5, .bool false, .string ⟨#[]⟩, .slice (some ⟨(w4.heap.size), 0, none⟩) 3 3, .slice (some ⟨(w.heap.size), 0, none⟩) 3 3] 30)).alloc (.cells #[.string ⟨#[116, 101, 120, 116, 68, 111, 99, 117, 109, 101, 110, 116]⟩] 9)) := (Below.refl _ _).alloc (Nat.le_refl _) _
      replace HM := Lib.hid (HM.out.on hb1)
      replace H34 := Lib.hid (H34.out.on hb1)
      replace H40 := Lib.hid (H40.out.on hb1)
      replace Hb9 := Lib.hid (Hb9.out.on hb1)
      replace HB := Lib.hid (HB.out.trans (hb1.mono HB.out.size))
      replace HQ := Lib.hid (Nat.le_trans HQ.out hb1.size)
      replace H42 := Lib.hid H42
      clear hb1
      have H44 := BL.new (((w6).alloc (.cells #[.int .i64 5, .bool false, .string ⟨#[]⟩, .slice (some ⟨(w4.heap.size), 0, none⟩) 3 3, .slice (some ⟨(w.heap.size), 0, none⟩) 3 3] 30)).alloc (.cells #[.string ⟨#[116, 101, 120, 116, 68, 111, 99, 117, 109, 101, 110, 116]⟩] 9)) #[.int .i64 5, .bool false, .string ⟨#[]⟩, .slice (some ⟨(w4.heap.size), 0, none⟩) 3 3, .slice (some ⟨(w.heap.size), 0, none⟩) 3 3] 30
      rw [show (((w6).alloc (.cells #[.int .i64 5, .bool false, .string ⟨#[]⟩, .slice (some ⟨(w4.heap.size), 0, none⟩) 3 3, .slice (some ⟨(w.heap.size), 0, none⟩) 3 3] 30)).alloc (.cells #[.string ⟨#[116, 101, 120, 116, 68, 111, 99, 117, 109, 101, 110, 116]⟩] 9)).heap.size = w6.heap.size + 1 + 1 by simp] at H44
      have hb2 : Below (((w6).alloc (.cells #[.int .i64 5, .bool false, .string ⟨#[]⟩, .slice (some ⟨(w4.heap.size), 0, none⟩) 3 3, .slice (some ⟨(w.heap.size), 0, none⟩) 3 3] 30)).alloc (.cells #[.string ⟨#[116, 101, 120, 116, 68, 111, 99, 117, 109, 101, 110, 116]⟩] 9)).heap.size (((w6).alloc (.cells #[.int .i64 5, .bool false, .string ⟨#[]⟩, .slice (some ⟨(w4.heap.size), 0, none⟩) 3 3, .slice (some ⟨(w.heap.size), 0, none⟩) 3 3] 30)).alloc (.cells #[.string ⟨#[116, 101, 120, 116, 68, 111, 99, 117, 109, 101, 110, 116]⟩] 9)) ((((w6).alloc (.cells #[.int .i64 5, .bool false, .string ⟨#[]⟩, .slice (some ⟨(w4.heap.size), 0, none⟩) 3 3, .slice (some ⟨(w.heap.size), 0, none⟩) 3 3] 30)).alloc (.cells #[.string ⟨#[116, 101, 120, 116, 68, 111, 99, 117, 109, 101, 110, 116]⟩] 9)).alloc (.cells #[.int .i64 5, .bool false, .string ⟨#[]⟩, .slice (some ⟨(w4.heap.size), 0, none⟩) 3 3, .slice (some ⟨(w.heap.size), 0, none⟩) 3 3] 30)) := (Below.refl _ _).alloc (Nat.le_refl _) _
      replace HM := Lib.hid (HM.out.on hb2)
      replace H34 := Lib.hid (H34.out.on hb2)
      replace H40 := Lib.hid (H40.out.on hb2)
      replace Hb9 := Lib.hid (Hb9.out.on hb2)
      replace H42 := Lib.hid (H42.out.on hb2)
      replace HB := Lib.hid (HB.out.trans (hb2.mono HB.out.size))
      replace HQ := Lib.hid (Nat.le_trans HQ.out hb2.size)
      replace H44 := Lib.hid H44
      clear hb2
      generalize ((((w6).alloc (.cells #[.int .i64 5, .bool false, .string ⟨#[]⟩, .slice (some ⟨(w4.heap.size), 0, none⟩) 3 3, .slice (some ⟨(w.heap.size), 0, none⟩) 3 3] 30)).alloc (.cells #[.string ⟨#[116, 101, 120, 116, 68, 111, 99, 117, 109, 101, 110, 116]⟩] 9)).alloc (.cells #[.int .i64 5, .bool false, .string ⟨#[]⟩, .slice (some ⟨(w4.heap.size), 0, none⟩) 3 3, .slice (some ⟨(w.heap.size), 0, none⟩) 3 3] 30)) = w7 at *
      refine (mObject_any _ _ 1 1 1 1 w7).mono ?_
      rintro e w8 ⟨rfl, hb⟩
      replace HM := Lib.hid (HM.out.on hb)
      replace H34 := Lib.hid (H34.out.on hb)
      replace H40 := Lib.hid (H40.out.on hb)
      replace Hb9 := Lib.hid (Hb9.out.on hb)
      replace H42 := Lib.hid (H42.out.on hb)
      replace H44 := Lib.hid (H44.out.on hb)
      replace HB := Lib.hid (HB.out.trans (hb.mono HB.out.size))
      replace HQ := Lib.hid (Nat.le_trans HQ.out hb.size)
      clear hb
      have M40 := Lib.hid H40.out.lt
      go_wp2_with fail
      have Hb10 := BX.new (w8) (.int .i64 5) (.bool false) (.string ⟨#[]⟩) (.slice (some ⟨(w6.heap.size + 1 + 1), 0, none⟩) 1 1) (.slice (some ⟨(w6.heap.size + 1), 0, none⟩) 1 1)
      have hb0 : Below (w8).heap.size (w8) ((w8).alloc (.cells #[.int .i64 5, .bool false, .string ⟨#[]⟩, .slice (some ⟨(w6.heap.size + 1 + 1), 0, none⟩) 1 1, .slice (some ⟨(w6.heap.size + 1), 0, none⟩) 1 1] 30)) := (Below.refl _ _).alloc (Nat.le_refl _) _
      replace HM := Lib.hid (HM.out.on hb0)
      replace H34 := Lib.hid (H34.out.on hb0)
      replace H40 := Lib.hid (H40.out.on hb0)
      replace Hb9 := Lib.hid (Hb9.out.on hb0)
      replace H42 := Lib.hid (H42.out.on hb0)
      replace H44 := Lib.hid (H44.out.on hb0)
      replace HB := Lib.hid (HB.out.trans (hb0.mono HB.out.size))
      replace HQ := Lib.hid (Nat.le_trans HQ.out hb0.size)
      replace Hb10 := Lib.hid Hb10
      clear hb0
      generalize ((w8).alloc (.cells #[.int .i64 5, .bool false, .string ⟨#[]⟩, .slice (some ⟨(w6.heap.size + 1 + 1), 0, none⟩) 1 1, .slice (some ⟨(w6.heap.size + 1), 0, none⟩) 1 1] 30)) = w9 at *
      have hc := odd_closes s (bs (numS v))
      have ho := odd_opens s v
      have HK' : Hid ((oddP s (bs (numS v))).bulk ≤ 2000) := Lib.hid (by have := odd_bulk s v (by have := HV.out; omega); have := HS.out; omega)
      rw [HS.out] at hc ho
      obtain ⟨m1, hm1, i1⟩ : ∃ m1, decide (1 ≤ p) = m1 ∧ decide ((1 : Int) ≤ (p : Int)) = m1 := ⟨_, rfl, by rw [decide_eq_decide]; omega⟩
      obtain ⟨m2, hm2, i2⟩ : ∃ m2, decide (p ≤ 256) = m2 ∧ decide ((p : Int) ≤ (256 : Int)) = m2 := ⟨_, rfl, by rw [decide_eq_decide]; omega⟩
      obtain ⟨z1, i3⟩ : ∃ z1, decide ((0 : Int) ≤ v) = z1 := ⟨_, rfl⟩
      obtain ⟨z2, i4⟩ : ∃ z2, decide (v ≤ (9007199254740991 : Int)) = z2 := ⟨_, rfl⟩
      rw [hm1, hm2] at hc ho
      rw [i3, i4] at ho
      clear hm1 hm2
      cases m1 <;> cases m2 <;> cases z1 <;> cases z2
      all_goals simp only [Bool.and_self, Bool.and_false, Bool.false_and, Bool.and_true, Bool.true_and, if_true, if_false, Bool.false_eq_true] at hc ho
      all_goals (
        have hC := Uri_any _ w9 _ _ (odd_VAL H34.out H40.out H42.out H44.out) (fun _ h => h) HM.out (by have := HK'.out; omega)
        rw [hc] at hC
        refine hC.mono ?_
        clear hC
        rintro e w10 ⟨rfl, hb⟩
        replace HM := Lib.hid (HM.out.on hb)
        replace H34 := Lib.hid (H34.out.on hb)
        replace H40 := Lib.hid (H40.out.on hb)
        replace Hb9 := Lib.hid (Hb9.out.on hb)
        replace H42 := Lib.hid (H42.out.on hb)
        replace H44 := Lib.hid (H44.out.on hb)
        replace Hb10 := Lib.hid (Hb10.out.on hb)
        replace HB := Lib.hid (HB.out.trans (hb.mono HB.out.size))
        replace HQ := Lib.hid (Nat.le_trans HQ.out hb.size)
        clear hb
        have hg := Hb10.out
        have y0 := hg.c0
        have y1 := hg.c1
        have y2 := hg.c2
        have y3 := hg.c3
        have y4 := hg.c4
        clear hg
        go_wp2_with fail
        have hC := Open_any _ w10 _ _ (odd_VAL H34.out H40.out H42.out H44.out) (fun _ h => h) HM.out (by have := HK'.out; omega)
        rw [ho] at hC
        refine hC.mono ?_
        clear hC
        rintro e w11 ⟨rfl, hb⟩
        replace HM := Lib.hid (HM.out.on hb)
        replace H34 := Lib.hid (H34.out.on hb)
        replace H40 := Lib.hid (H40.out.on hb)
        replace Hb9 := Lib.hid (Hb9.out.on hb)
        replace H42 := Lib.hid (H42.out.on hb)
        replace H44 := Lib.hid (H44.out.on hb)
        replace Hb10 := Lib.hid (Hb10.out.on hb)
        replace HB := Lib.hid (HB.out.trans (hb.mono HB.out.size))
        replace HQ := Lib.hid (Nat.le_trans HQ.out hb.size)
        clear hb
        clear y0 y1 y2 y3 y4
        go_upto_region 16 with (fail)
        refine start_ (n := 5) (S := fun w' => BX w' (w6.heap.size) (.int .i64 5) (.bool false) (.string ⟨#[]⟩) (.slice (some ⟨(w4.heap.size), 0, none⟩) 3 3) (.slice (some ⟨(w.heap.size), 0, none⟩) 3 3)) (ds := [4]) #[false, false, false, false, false] (by kernel_rfl) rfl rfl (Hb9.out.on ((Below.refl _ _).drew)) (fun hHeld => ?_)
        have hb : Below w11.heap.size w11 w11.drew := (Below.refl _ _).drew
        replace HM := Lib.hid (HM.out.on hb)
        replace H34 := Lib.hid (H34.out.on hb)
        replace H40 := Lib.hid (H40.out.on hb)
        replace Hb9 := Lib.hid (Hb9.out.on hb)
        replace H42 := Lib.hid (H42.out.on hb)
        replace H44 := Lib.hid (H44.out.on hb)
        replace Hb10 := Lib.hid (Hb10.out.on hb)
        replace HB := Lib.hid (HB.out.trans (hb.mono HB.out.size))
        replace HQ := Lib.hid (Nat.le_trans HQ.out hb.size)
        clear hb
        generalize w11.drew = w12 at *
        refine pure_ (i := 0) (N := some 116) (v := ?_) (a' := ?_) #[true, false, false, false, false] rfl rfl (by kernel_rfl) (fun _ _ _ h => h) (Or.inl ⟨by rfl, ?_⟩) ?_ ?_
        rotate_left
        · intro w'; go_simp; with_reducible rfl
        rotate_left
        · simp only [Act.put, List.setIfInBounds_toArray, List.set_cons_zero, List.set_cons_succ, i64_w, i32_w]; rfl
        refine take_ (i := 1) (N := some 117) (v := ?_) (a' := ?_) #[true, true, false, false, false] rfl rfl (by kernel_rfl) (fun _ _ _ h => h) (Or.inl ⟨by rfl, ?_⟩) hHeld ?_ ?_
        rotate_left
        · intro w' hx; have s3 := BX.c3 hx; clear hx; go_simp; with_reducible rfl
        rotate_left
        · simp only [Act.put, List.setIfInBounds_toArray, List.set_cons_zero, List.set_cons_succ, i64_w, i32_w]; rfl
        refine one_ (i := 2) (N := some 118) #[true, true, true, false, false] rfl rfl (by kernel_rfl) (by decide) (fun K hK => ?_)
        refine goes_ Tryz.func35 (by kernel_rfl) rfl #[.string ⟨#[49, 46, 53]⟩] rfl rfl rfl (by simp only [List.map_toArray, List.map_cons, List.map_nil, Act.eval]) ?_
        refine (mNumber_any ⟨#[49, 46, 53]⟩ w12).mono ?_
        rintro e w13 ⟨rfl, hb⟩
        refine ⟨_, rfl, hK.out _ _ (hHeld.on hb) (fun hHeld2 => ?_)⟩
        clear hK K hHeld hHeld2
        replace HM := Lib.hid (HM.out.on hb)
        replace H34 := Lib.hid (H34.out.on hb)
        replace H40 := Lib.hid (H40.out.on hb)
        replace Hb9 := Lib.hid (Hb9.out.on hb)
        replace H42 := Lib.hid (H42.out.on hb)
        replace H44 := Lib.hid (H44.out.on hb)
        replace Hb10 := Lib.hid (Hb10.out.on hb)
        replace HB := Lib.hid (HB.out.trans (hb.mono HB.out.size))
        replace HQ := Lib.hid (Nat.le_trans HQ.out hb.size)
        clear hb
        refine norm_ (a' := ?_) ?_ ?_
        rotate_left
        · show Act.put _ (some 118) _ = _; simp only [Act.put, List.setIfInBounds_toArray, List.set_cons_zero, List.set_cons_succ, i64_w, i32_w]; rfl
        refine pure_ (i := 3) (N := some 119) (v := ?_) (a' := ?_) #[true, true, true, true, false] rfl rfl (by kernel_rfl) (fun _ _ _ h => h) (Or.inl ⟨by rfl, ?_⟩) ?_ ?_
        rotate_left
        · intro w'; go_simp; with_reducible rfl
        rotate_left
        · simp only [Act.put, List.setIfInBounds_toArray, List.set_cons_zero, List.set_cons_succ, i64_w, i32_w]; rfl
        refine last_ (i := 4) (N := none) #[true, true, true, true, true] rfl rfl (by kernel_rfl) (by decide) (fun K hK => ?_)
        have y5 : _ = some (Value.int .i64 2) := H40.out.c 5
        have f5 := H40.out.fr 5
        have y6 : _ = some (Value.bool false) := H40.out.c 6
        have f6 := H40.out.fr 6
        have y7 : _ = some (Value.string (bs (numS v))) := H40.out.c 7
        have f7 := H40.out.fr 7
        have y8 : _ = some (Value.slice none 0 0) := H40.out.c 8
        have f8 := H40.out.fr 8
        have y9 : _ = some (Value.slice none 0 0) := H40.out.c 9
        have f9 := H40.out.fr 9
        refine skip_ (w1 := putB w13 (w4.heap.size) (.int .i64 2) (.bool false) (.string ⟨#[49, 46, 53]⟩) (.slice none 0 0) (.slice none 0 0)) rfl rfl ?_ (hK.out _ _ ?_)
        · go_simp
          all_goals first | rfl | (constructor <;> rfl)
        clear hK K y5 f5 y6 f6 y7 f7 y8 f8 y9 f9
        replace HB := Lib.hid (putB_below HB.out (w4.heap.size) (.int .i64 2) (.bool false) (.string ⟨#[49, 46, 53]⟩) (.slice none 0 0) (.slice none 0 0) N0.out)
        replace HM := Lib.hid (HM0.out.on HB.out)
        replace H34 : Hid (BL (putB w13 (w4.heap.size) (.int .i64 2) (.bool false) (.string ⟨#[49, 46, 53]⟩) (.slice none 0 0) (.slice none 0 0)) (w.heap.size) #[.string ⟨#[117, 114, 105]⟩, .string ⟨#[118, 101, 114, 115, 105, 111, 110]⟩, .string ⟨#[116, 101, 120, 116]⟩] 9) := Lib.hid ((putB_block w13 (w4.heap.size) (.int .i64 2) (.bool false) (.string ⟨#[49, 46, 53]⟩) (.slice none 0 0) (.slice none 0 0) _ (by exact N34.out)).trans H34.out)
        replace H42 : Hid (BL (putB w13 (w4.heap.size) (.int .i64 2) (.bool false) (.string ⟨#[49, 46, 53]⟩) (.slice none 0 0) (.slice none 0 0)) (w6.heap.size + 1) #[.string ⟨#[116, 101, 120, 116, 68, 111, 99, 117, 109, 101, 110, 116]⟩] 9) := Lib.hid ((putB_block w13 (w4.heap.size) (.int .i64 2) (.bool false) (.string ⟨#[49, 46, 53]⟩) (.slice none 0 0) (.slice none 0 0) _ (by have := N40.out; omega)).trans H42.out)
        replace H44 : Hid (BL (putB w13 (w4.heap.size) (.int .i64 2) (.bool false) (.string ⟨#[49, 46, 53]⟩) (.slice none 0 0) (.slice none 0 0)) (w6.heap.size + 1 + 1) #[.int .i64 5, .bool false, .string ⟨#[]⟩, .slice (some ⟨(w4.heap.size), 0, none⟩) 3 3, .slice (some ⟨(w.heap.size), 0, none⟩) 3 3] 30) := Lib.hid ((putB_block w13 (w4.heap.size) (.int .i64 2) (.bool false) (.string ⟨#[49, 46, 53]⟩) (.slice none 0 0) (.slice none 0 0) _ (by have := N40.out; omega)).trans H44.out)
        replace Hb10 : Hid (BX (putB w13 (w4.heap.size) (.int .i64 2) (.bool false) (.string ⟨#[49, 46, 53]⟩) (.slice none 0 0) (.slice none 0 0)) (w8.heap.size) (.int .i64 5) (.bool false) (.string ⟨#[]⟩) (.slice (some ⟨(w6.heap.size + 1 + 1), 0, none⟩) 1 1) (.slice (some ⟨(w6.heap.size + 1), 0, none⟩) 1 1)) := Lib.hid ((putB_block w13 (w4.heap.size) (.int .i64 2) (.bool false) (.string ⟨#[49, 46, 53]⟩) (.slice none 0 0) (.slice none 0 0) _ (by have := M40.out; omega)).trans Hb10.out)
        replace H40 := Lib.hid (H40.out.putB (.int .i64 2) (.bool false) (.string ⟨#[49, 46, 53]⟩) (.slice none 0 0) (.slice none 0 0))
        clear Hb9
        replace H40 : Hid (BL (putB w13 (w4.heap.size) (.int .i64 2) (.bool false) (.string ⟨#[49, 46, 53]⟩) (.slice none 0 0) (.slice none 0 0)) (w4.heap.size) #[.int .i64 3, .bool false, .string s, .slice none 0 0, .slice none 0 0, .int .i64 2, .bool false, .string ⟨#[49, 46, 53]⟩, .slice none 0 0, .slice none 0 0, .int .i64 3, .bool false, .string ⟨#[116]⟩, .slice none 0 0, .slice none 0 0] 30) := H40
        clear HQ
        have HQ : Hid (0 ≤ (putB w13 (w4.heap.size) (.int .i64 2) (.bool false) (.string ⟨#[49, 46, 53]⟩) (.slice none 0 0) (.slice none 0 0)).heap.size) := Lib.hid (Nat.zero_le _)
        have HK2 : Hid ((oddP s ⟨#[49, 46, 53]⟩).bulk ≤ 2000) := Lib.hid (by rw [odd_bulk1, HS.out, show (ByteArray.mk #[49, 46, 53]).size = 3 from rfl]; have := HN.out; omega)
        refine done_ (by kernel_rfl) ?_
        generalize (putB w13 (w4.heap.size) (.int .i64 2) (.bool false) (.string ⟨#[49, 46, 53]⟩) (.slice none 0 0) (.slice none 0 0)) = w14 at *
        have hg := Hb10.out
        have y0 := hg.c0
        have y1 := hg.c1
        have y2 := hg.c2
        have y3 := hg.c3
        have y4 := hg.c4
        clear hg
        go_wp2_with fail
        have hC := Open_any _ w14 _ _ (odd_VAL H34.out H40.out H42.out H44.out) (fun _ h => h) HM.out (by have := HK2.out; omega)
        rw [odd_half] at hC
        refine hC.mono ?_
        clear hC
        rintro e w15 ⟨rfl, hb⟩
        replace HM := Lib.hid (HM.out.on hb)
        replace H34 := Lib.hid (H34.out.on hb)
        replace H40 := Lib.hid (H40.out.on hb)
        replace H42 := Lib.hid (H42.out.on hb)
        replace H44 := Lib.hid (H44.out.on hb)
        replace Hb10 := Lib.hid (Hb10.out.on hb)
        replace HB := Lib.hid (HB.out.trans (hb.mono HB.out.size))
        replace HQ := Lib.hid (Nat.le_trans HQ.out hb.size)
        clear hb
        clear y0 y1 y2 y3 y4
        go_wp2_with fail
        refine (awake_any w15 HM.out).mono ?_
        rintro e w16 ⟨rfl, hb⟩
        replace HM := Lib.hid (HM.out.on hb)
        replace H34 := Lib.hid (H34.out.on hb)
        replace H40 := Lib.hid (H40.out.on hb)
        replace H42 := Lib.hid (H42.out.on hb)
        replace H44 := Lib.hid (H44.out.on hb)
        replace Hb10 := Lib.hid (Hb10.out.on hb)
        replace HB := Lib.hid (HB.out.trans (hb.mono HB.out.size))
        replace HQ := Lib.hid (Nat.le_trans HQ.out hb.size)
        clear hb
        go_wp2
        go_ret
        exact ⟨rfl, HB.out⟩
        )
end Go.Proofs.YthndgekjccclnaaGreatDoor
namespace Go.Proofs.YthndgekjccclnaaGreatDoor.paramOdd
open Go.ChangeShapes Go.WideShapes Go.ChangeAt Go.RowKit Go.Proofs.YthndgekjccclnaaGreatDoor.rowkit
open Go.ChangeMaps (open_string shut_string)
set_option linter.unusedVariables false
set_option linter.unusedSimpArgs false

theorem reads (os : Os) {H : Type} (enc : TypeId × Value → H) : ∃ places, DataW.whole enc Tryz.prog ((World.laidAll Tryz.prog os Rows.paramOddRow.laid).forCall (fun _ _ => 0) ⟨#[], #[.int .i64 0, .int .i64 0], []⟩).memory Tryz.f7.params.toList Rows.paramOddSpec.vars false #[Value.int .i64 0, Value.int .i64 0].toList 8 = some ([.lit (.int .i64 0), .lit (.int .i64 0)], [], places) :=
  ⟨[], by kernel_rfl⟩
theorem laid_met (os : Os) : laidMet Tryz.prog Rows.paramOddRow.laid ((World.laidAll Tryz.prog os Rows.paramOddRow.laid).forCall (fun _ _ => 0) ⟨#[], #[.int .i64 0, .int .i64 0], []⟩).memory :=
  laidMet_laidAll _ (by kernel_rfl) (by kernel_rfl)

set_option maxRecDepth 100000 in
set_option maxHeartbeats 1000000 in
theorem lifted (os : Os) (started : os.Started) (H : Type) (enc : TypeId × Value → H) (F : Stop.Interp) :
    ReturnsInHanded {} Tryz.checked os 7 .any ((OpenSpec.ofChange Rows.paramOddSpec).preRow enc Tryz.prog Tryz.f7 Rows.paramOddRow.domain false Rows.paramOddRow.laid) (((OpenSpec.ofChange Rows.paramOddSpec).at F).post enc Tryz.prog Tryz.f7 false true false false) := by
  obtain ⟨places, hx⟩ := reads os enc
  refine returnsInHanded_of_row (C := Tryz.checked) (s := OpenSpec.ofChange Rows.paramOddSpec) own started (by kernel_rfl) Tryz.func7
    (witness_row_atRef (enc := enc) (C := Tryz.checked) false (World.laidAll Tryz.prog os Rows.paramOddRow.laid) #[.int .i64 0, .int .i64 0] (World.laidAll_os _ _ _) (by kernel_rfl) (by kernel_rfl) (by kernel_rfl)
      (OpenSpec.preRow_of_cond 8 hx (by kernel_rfl) (fun k hk => by cases hk) (by kernel_rfl) (laid_met os))) ?_
  intro W base args ds gs before hval0 hW _ _ hsz0 _ hsh _
  have hM := ml hsh
  have hsz : (DataW.weightsEach Tryz.prog (Tryz.f7.params.toList ++ Rows.paramOddSpec.plain.varTypes Tryz.prog) (ds ++ gs)).all (· ≤ reachBytes) = true := hsz0
  have hval : ∀ (j : Nat) t v, Tryz.f7.params[j]? = some t → args[j]? = some v → Value.okWide Tryz.prog W .any base t v := hval0
  have hW' := hW
  obtain ⟨p, q, hA0, hV, rfl, hfz, hnd⟩ := hW
  have hA : DataW.TrodAll enc Tryz.prog W 0 (fun _ => true) true Tryz.f7.params.toList args.toList ds p := hA0
  rw [Tryz.params7] at hA hval hsz
  obtain ⟨v0, vs0, d0, ds0, p0, q0, hargs, rfl, rfl, h0, r0⟩ := trodAll_cons hA
  obtain ⟨v1, vs1, d1, ds1, p1, q1, rfl, rfl, rfl, h1, r1⟩ := trodAll_cons r0
  obtain ⟨rfl, rfl, rfl⟩ := trodAll_nil r1
  obtain rfl : args = #[v0, v1] := by cases args; simp_all
  obtain ⟨rfl, rfl⟩ := trodVars_none hV
  obtain ⟨a0, rfl, rfl, rfl, w0⟩ := open_int Tryz.underlying3 (hval 0 3 v0 rfl rfl) h0
  obtain ⟨a1, rfl, rfl, rfl, w1⟩ := open_int Tryz.underlying3 (hval 1 3 v1 rfl rfl) h1
  clear hA0 hval0 hsz0 hsz
  refine (ParamOdd_walk a0 a1 W (bounds_i64 w0) (bounds_i64 w1) hM).mono fun e W' ⟨he, bel⟩ => ?_
  subst he
  exact ⟨_, rfl, _, _, _, [], _, [], hW', trodAll_mk1 (shut_bool Tryz.underlying4 _), (trodAll_cons_mk (shut_int Tryz.underlying3 w0) (trodAll_cons_mk (shut_int Tryz.underlying3 w1) trodAll_mk0)), rfl, bel.frame _, fun h => by cases h⟩

theorem said : Rows.ParamOddSaid :=
  OpenClaim.holds_of_cond 7 Tryz.f7 rfl rfl rfl rfl rfl rfl rfl ⟨rfl, rfl, rfl, rfl, rfl⟩ rfl rfl rfl rfl rfl (by kernel_rfl) Tryz.func7 (by kernel_rfl)
    (of_decide_eq_true (by kernel_rfl)) (by unfold Func.isWrapper; first | (rw [if_pos (by decide +kernel)]; kernel_rfl) | (rw [if_neg (by decide +kernel)]; exact ⟨rfl, rfl⟩))
    (fun os started H enc _ F => by rw [OpenClaim.pre_eq_preRow]; exact lifted os started H enc F)

theorem plain (f : FuncId) (fn : Func) (hf : Tryz.pinned.checked.prog.funcNamed "colophon/colophonlaw13.ParamOdd" = some f) (hfn : Tryz.pinned.checked.prog.funcs[f]? = some fn) :
    true = Tryz.pinned.checked.prog.looks [] ∧ ∀ (j : Nat) t, fn.params[j]? = some t → Tryz.pinned.checked.prog.wantsStandIn t = false := by
  obtain rfl : f = 7 := Option.some.inj ((show Tryz.prog.funcNamed "colophon/colophonlaw13.ParamOdd" = some 7 by kernel_rfl).symm.trans hf) |>.symm
  obtain rfl : fn = Tryz.f7 := (Option.some.inj (Tryz.func7.symm.trans hfn)).symm
  refine ⟨by kernel_rfl, fun j t ht => ?_⟩
  rw [Tryz.params7] at ht
  have hm : t ∈ ([3, 3] : List Nat) := by simpa using Array.mem_of_getElem? ht
  have hall : (([3, 3] : List Nat).all fun u => !Tryz.prog.wantsStandIn u) = true := by kernel_rfl
  exact (show Tryz.prog.wantsStandIn t = false by simpa using List.all_eq_true.1 hall t hm)

theorem card : Rows.ParamOddCardSaid :=
  Claim7.holds_tied_plain_at .later [] _ _ _ _ said (fun _ h => by cases h) (by kernel_rfl) (fun _ h => by cases h) paramOdd_row_tie rfl ⟨rfl, rfl⟩ (by kernel_rfl) rfl plain (by kernel_rfl)
#print axioms card
end Go.Proofs.YthndgekjccclnaaGreatDoor.paramOdd
