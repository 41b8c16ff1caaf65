/-
  Joined texts: MkMay.
-/
import Derived.Test.YthndgekjccclnaaGreatDoorPkMkT
import Derived.Test.YthndgekjccclnaaGreatDoorPkMkU
import Derived.Test.YthndgekjccclnaaGreatDoorPkMkH
import Derived.Test.YthndgekjccclnaaGreatDoorPkMkK
import Derived.Test.YthndgekjccclnaaGreatDoorPkMkM
namespace Go.Proofs.YthndgekjccclnaaGreatDoor
open Go.RowKit Val Num Go.Proofs.YthndgekjccclnaaGreatDoorW.PrintLast
set_option linter.unusedVariables false
set_option linter.unusedSimpArgs false

theorem list_all {P : VT → Prop} (l : List VT) (h : ∀ t ∈ l, P t) (j : Nat) (hj : j < l.length) : P (l.getD j .leaf) := by
  rw [List.getD_eq_getElem?_getD, List.getElem?_eq_getElem hj]
  exact h _ (List.getElem_mem hj)
theorem ofL_may (k : Int) (i : Bool) (x : ByteArray) (l : List VT) (m : List ByteArray) (h0 : 0 ≤ k) (h5 : k ≤ 5) (hi : i = true → k = 1) (hx : x.toList = [] ∨ k = 2 ∨ k = 3) (hn : ¬ 0 < l.length ∨ k = 4 ∨ k = 5) (hm : ¬ 0 < m.length ∨ k = 5) (hl : k = 5 → m.length = l.length) (h : ∀ t ∈ l, t.may = true) : (VT.ofL k i x l m).may = true := by
  show (VT.mk k i x l.length (fun j => l.getD j .leaf) m).may = true
  rw [may_all h0 h5 hi hx hn hm hl]
  exact (VT.allTo_iff _ _).2 fun j hj => list_all (P := fun t => t.may = true) l h j hj
theorem ofL_depth (k : Int) (i : Bool) (x : ByteArray) (l : List VT) (m : List ByteArray) (d : Nat) (h : ∀ t ∈ l, t.depth ≤ d) : (VT.ofL k i x l m).depth ≤ d + 1 := by
  show VT.maxTo (fun j => (l.getD j .leaf).depth) l.length + 1 ≤ d + 1
  have := VT.maxTo_le (fun j => (l.getD j .leaf).depth) d l.length (fun j hj => list_all (P := fun t => t.depth ≤ d) l h j hj)
  omega
/-- may be, and is at most so deep -/
def OkT (d : Nat) (t : VT) : Prop := t.may = true ∧ t.depth ≤ d
theorem OkT.mono {d e : Nat} {t : VT} (h : OkT d t) (hd : d ≤ e) : OkT e t := ⟨h.1, Nat.le_trans h.2 hd⟩
theorem OkT.check {d : Nat} {t : VT} (h : OkT d t) (hd : d ≤ 128) : t.check = 0 := by
  unfold VT.check
  rw [if_pos h.1, if_neg (by have := h.2; omega)]
theorem ok_tx (s : ByteArray) : OkT 1 (txT s) := ⟨ofL_may _ _ _ _ _ (by decide) (by decide) (by simp) (.inr (.inr rfl)) (.inl (by simp)) (.inl (by simp)) (by decide) (by simp), ofL_depth _ _ _ _ _ 0 (by simp)⟩
theorem ok_nb (v : Int) : OkT 1 (nbT v) := ⟨ofL_may _ _ _ _ _ (by decide) (by decide) (by simp) (.inr (.inl rfl)) (.inl (by simp)) (.inl (by simp)) (by decide) (by simp), ofL_depth _ _ _ _ _ 0 (by simp)⟩
theorem ok_bo (b : Bool) : OkT 1 (boT b) := ⟨ofL_may _ _ _ _ _ (by decide) (by decide) (fun _ => rfl) (.inl ((toList_nil _).2 rfl)) (.inl (by simp)) (.inl (by simp)) (by decide) (by simp), ofL_depth _ _ _ _ _ 0 (by simp)⟩
theorem ok_ob {d : Nat} (m : List ByteArray) (l : List VT) (hl : m.length = l.length) (h : ∀ t ∈ l, OkT d t) : OkT (d + 1) (obT m l) := ⟨ofL_may _ _ _ _ _ (by decide) (by decide) (by simp) (.inl ((toList_nil _).2 rfl)) (.inr (.inr rfl)) (.inr rfl) (fun _ => hl) (fun t ht => (h t ht).1), ofL_depth _ _ _ _ _ d (fun t ht => (h t ht).2)⟩
theorem ok_ls {d : Nat} (l : List VT) (h : ∀ t ∈ l, OkT d t) : OkT (d + 1) (lsT l) := ⟨ofL_may _ _ _ _ _ (by decide) (by decide) (by simp) (.inl ((toList_nil _).2 rfl)) (.inr (.inl rfl)) (.inl (by simp)) (fun h => absurd h (by decide)) (fun t ht => (h t ht).1), ofL_depth _ _ _ _ _ d (fun t ht => (h t ht).2)⟩
theorem mem2 {P : VT → Prop} {a b : VT} (ha : P a) (hb : P b) : ∀ t ∈ [a, b], P t := by simp [ha, hb]
theorem mem3 {P : VT → Prop} {a b c : VT} (ha : P a) (hb : P b) (hc : P c) : ∀ t ∈ [a, b, c], P t := by simp [ha, hb, hc]
theorem mem5 {P : VT → Prop} {a b c d e : VT} (ha : P a) (hb : P b) (hc : P c) (hd : P d) (he : P e) : ∀ t ∈ [a, b, c, d, e], P t := by simp [ha, hb, hc, hd, he]
theorem ok_pos (a b : Int) : OkT 2 (posT a b) := ok_ob _ _ rfl (mem2 (ok_nb a) (ok_nb b))
theorem ok_range (a b c d : Int) : OkT 3 (rangeT a b c d) := ok_ob _ _ rfl (mem2 (ok_pos a b) (ok_pos c d))
theorem ok_diag (a b c d k : Int) (s : ByteArray) : OkT 4 (diagT a b c d k s) := ok_ob _ _ rfl (mem5 (ok_range a b c d) ((ok_nb 1).mono (by omega)) ((ok_nb k).mono (by omega)) ((ok_tx _).mono (by omega)) ((ok_tx s).mono (by omega)))
theorem ok_pub (uri : ByteArray) (ver : Int) (has : Bool) (l : List Dg) : OkT 6 (pubT uri ver has (l.map Dg.tree)) := by
  have hL : OkT 5 (lsT (l.map Dg.tree)) := ok_ls _ (fun t ht => by
    obtain ⟨x, -, rfl⟩ := List.mem_map.1 ht
    exact ok_diag x.a x.b x.c x.d x.k x.s)
  unfold pubT
  cases has
  · exact ok_ob _ _ rfl (mem2 ((ok_tx uri).mono (by omega)) hL)
  · exact ok_ob _ _ rfl (mem3 ((ok_tx uri).mono (by omega)) ((ok_nb ver).mono (by omega)) hL)
theorem ok_able : OkT 3 ableT := ok_ob _ _ rfl (mem2 (ok_ob _ _ rfl (mem3 (ok_nb 2) (ok_bo true) (ok_bo true))) (ok_ob _ _ rfl (by intro t ht; simp only [List.mem_singleton] at ht; subst ht; exact ok_tx _)))
theorem ok_folds (l : List Fd) : OkT 3 (lsT (l.map Fd.tree)) := ok_ls _ (fun t ht => by
    obtain ⟨x, -, rfl⟩ := List.mem_map.1 ht
    exact ok_ob _ _ rfl (mem2 (ok_nb x.a) (ok_nb x.b)))
theorem lsF_may (n : Nat) (c : Nat → VT) (h : ∀ j, (c j).may = true) : (lsF n c).may = true := by
  unfold lsF
  rw [may_all (by decide) (by decide) (by simp) (.inl ((toList_nil _).2 rfl)) (.inr (.inl rfl)) (.inl (by simp)) (fun h => absurd h (by decide))]
  exact (VT.allTo_iff _ _).2 fun j _ => h j
theorem sym_may (t : SY) : t.tree.may = true := by
  induction t with
  | leaf => rfl
  | mk nm k a b c d e f g h n kids ih =>
    exact ofL_may 5 false .empty [txT nm, nbT k, rangeT a b c d, rangeT e f g h, lsF n fun j => (kids j).tree] _ (by decide) (by decide) (by simp) (.inl ((toList_nil _).2 rfl)) (.inr (.inr rfl)) (.inr rfl) (fun _ => rfl) (mem5 (ok_tx nm).1 (ok_nb k).1 (ok_range a b c d).1 (ok_range e f g h).1 (lsF_may n _ ih))
end Go.Proofs.YthndgekjccclnaaGreatDoor
