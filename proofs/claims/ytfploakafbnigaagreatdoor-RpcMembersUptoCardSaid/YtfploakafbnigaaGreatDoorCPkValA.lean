/-
  Joined texts: ValSpec ParSpec ValMem ValOwn ValRef ValDeep ParDeepList.
-/
import Derived.Test.YtfploakafbnigaaGreatDoorCNumSpec
import Derived.Test.YtfploakafbnigaaGreatDoorShelf
import Derived.WalkKit
import Derived.Below
import Derived.Lib.Hide
import Derived.Laws.AppendOwn
import Derived.Deep.AppendLies
import Derived.Lib.Strings
import Derived.Laws.AppendOwnNone
import Derived.OwnWalk
import Derived.WalkSpells
import Derived.WalkLawsBesides
import Derived.BigQuiet
import Derived.Deep.QuietTactic
import Derived.Deep.DeepCutAuto
import Derived.Deep.CutBlock
import Derived.Deep.LoopGhost
import Derived.Deep.DeepFit
namespace Go.Proofs.YtfploakafbnigaaGreatDoor.Val
set_option linter.unusedVariables false
set_option linter.unusedSimpArgs false
/-- A value: kids 0 to n - 1 are its list; what stands beyond is never asked. -/
inductive VT where
  | leaf
  | mk (kind : Int) (is : Bool) (text : ByteArray) (n : Nat) (kids : Nat → VT) (names : List ByteArray)
namespace VT
def kind : VT → Int | .leaf => 0 | .mk k _ _ _ _ _ => k
def is : VT → Bool | .leaf => false | .mk _ i _ _ _ _ => i
def text : VT → ByteArray | .leaf => .empty | .mk _ _ t _ _ _ => t
def n : VT → Nat | .leaf => 0 | .mk _ _ _ n _ _ => n
def kids : VT → Nat → VT | .leaf => fun _ => .leaf | .mk _ _ _ _ c _ => c
def names : VT → List ByteArray | .leaf => [] | .mk _ _ _ _ _ m => m
def nul : VT := .mk 0 false .empty 0 (fun _ => .leaf) []
def ofL (k : Int) (i : Bool) (t : ByteArray) (l : List VT) (m : List ByteArray) : VT := .mk k i t l.length (fun j => l.getD j .leaf) m
def sumTo (f : Nat → Nat) : Nat → Nat | 0 => 0 | n + 1 => sumTo f n + f n
theorem sumTo_get (f : Nat → Nat) (n j : Nat) (h : j < n) : f j ≤ sumTo f n := by
  induction n with
  | zero => omega
  | succ n ih =>
    unfold sumTo
    by_cases e : j = n
    · subst e; omega
    · have := ih (by omega); omega
def maxTo (f : Nat → Nat) : Nat → Nat | 0 => 0 | n + 1 => max (maxTo f n) (f n)
theorem maxTo_le_sumTo (f g : Nat → Nat) (n : Nat) (h : ∀ j, j < n → f j ≤ g j) : maxTo f n ≤ sumTo g n := by
  induction n with
  | zero => exact Nat.le_refl _
  | succ n ih =>
    have := ih (fun j hj => h j (by omega))
    have := h n (by omega)
    unfold maxTo sumTo; omega
def allTo (f : Nat → Bool) : Nat → Bool | 0 => true | n + 1 => allTo f n && f n
theorem allTo_iff (f : Nat → Bool) (n : Nat) : allTo f n = true ↔ ∀ j, j < n → f j = true := by
  induction n with
  | zero => simp [allTo]
  | succ n ih =>
    unfold allTo
    rw [Bool.and_eq_true, ih]
    constructor
    · intro ⟨a, b⟩ j hj
      by_cases e : j = n
      · subst e; exact b
      · exact a j (by omega)
    · intro h; exact ⟨fun j hj => h j (by omega), h n (by omega)⟩
theorem allTo_false (f : Nat → Bool) (n j : Nat) (hj : j < n) (h : f j = false) : allTo f n = false := by
  cases e : allTo f n
  · rfl
  · have := (allTo_iff f n).1 e j hj; rw [h] at this; cases this
/-- how much it holds -/
def bulk : VT → Nat
  | .leaf => 0
  | .mk _ _ t n c m => 1 + t.size + n + m.length + (m.map ByteArray.size).sum + sumTo (fun j => (c j).bulk) n
theorem bulk_kid (k : Int) (i : Bool) (t : ByteArray) (n : Nat) (c : Nat → VT) (m : List ByteArray) (j : Nat) (h : j < n) : (c j).bulk < (VT.mk k i t n c m).bulk := by
  have := sumTo_get (fun j => (c j).bulk) n j h
  show (c j).bulk < 1 + t.size + n + m.length + (m.map ByteArray.size).sum + sumTo (fun j => (c j).bulk) n
  omega
theorem bulk_n (k : Int) (i : Bool) (t : ByteArray) (n : Nat) (c : Nat → VT) (m : List ByteArray) : n < (VT.mk k i t n c m).bulk ∧ t.size < (VT.mk k i t n c m).bulk ∧ m.length < (VT.mk k i t n c m).bulk ∧ ∀ x ∈ m, x.size < (VT.mk k i t n c m).bulk := by
  have e : (VT.mk k i t n c m).bulk = 1 + t.size + n + m.length + (m.map ByteArray.size).sum + sumTo (fun j => (c j).bulk) n := rfl
  refine ⟨by omega, by omega, by omega, fun x hx => ?_⟩
  have : x.size ≤ (m.map ByteArray.size).sum := by
    clear e
    induction m with
    | nil => cases hx
    | cons y m ih =>
      rw [List.map_cons, List.sum_cons]
      rcases List.mem_cons.1 hx with h | h
      · subst h; omega
      · have := ih h; omega
  omega
def depth : VT → Nat
  | .leaf => 0
  | .mk _ _ _ n c _ => maxTo (fun j => (c j).depth) n + 1
theorem depth_le (t : VT) : t.depth ≤ t.bulk := by
  induction t with
  | leaf => exact Nat.le_refl _
  | mk k i t n c m ih =>
    have := maxTo_le_sumTo (fun j => (c j).depth) (fun j => (c j).bulk) n (fun j _ => ih j)
    show maxTo (fun j => (c j).depth) n + 1 ≤ 1 + t.size + n + m.length + (m.map ByteArray.size).sum + sumTo (fun j => (c j).bulk) n
    omega
/-- are two alike? -/
def eqv : VT → VT → Bool
  | .leaf, _ => true
  | .mk k i t n c m, u => decide (k = u.kind) && decide (i = u.is) && decide (t = u.text) && decide (m = u.names) && decide (n = u.n) && allTo (fun j => (c j).eqv (u.kids j)) n
theorem eqv_refl (t : VT) : t.eqv t = true := by
  induction t with
  | leaf => rfl
  | mk k i t n c m ih =>
    have h := (allTo_iff (fun j => (c j).eqv (c j)) n).2 (fun j _ => ih j)
    show (decide (k = k) && decide (i = i) && decide (t = t) && decide (m = m) && decide (n = n) && allTo (fun j => (c j).eqv (c j)) n) = true
    rw [h]; simp
/-- may it be? -/
def may : VT → Bool
  | .leaf => true
  | .mk k i t n c m => decide (0 ≤ k) && decide (k ≤ 5) && (!i || k == 1) && (t.size == 0 || k == 2 || k == 3) && (n == 0 || k == 4 || k == 5) && (m.length == 0 || k == 5) && (!(k == 5) || m.length == n) && allTo (fun j => (c j).may) n
def check (t : VT) : Int := if t.may then if 128 < t.depth then 111 else 0 else 2
/-- the last place of a name below n -/
def lastIdx (l : List ByteArray) (x : ByteArray) : Nat → Option Nat
  | 0 => none
  | n + 1 => if l[n]? = some x then some n else lastIdx l x n
theorem lastIdx_lt {l : List ByteArray} {x : ByteArray} {n i : Nat} (h : lastIdx l x n = some i) : i < n ∧ l[i]? = some x := by
  induction n with
  | zero => cases h
  | succ n ih =>
    unfold lastIdx at h
    split at h
    · injection h with h; subst h; exact ⟨by omega, by assumption⟩
    · have := ih h; exact ⟨by omega, this.2⟩
def get (t : VT) (x : ByteArray) : Option VT := if t.kind = 5 then (lastIdx t.names x (min t.names.length t.n)).map t.kids else none
def getD (t : VT) (x : ByteArray) : VT := (t.get x).getD nul
theorem get_bulk {t u : VT} {x : ByteArray} (h : t.get x = some u) : u.bulk < t.bulk := by
  unfold get at h
  split at h
  · cases hi : lastIdx t.names x (min t.names.length t.n) with
    | none => rw [hi] at h; cases h
    | some i =>
      rw [hi] at h
      injection h with h
      have := (lastIdx_lt hi).1
      subst h
      cases t with
      | leaf => simp [n] at this
      | mk k is tx n c m => exact bulk_kid k is tx n c m i (by simp only [VT.n] at this; omega)
  · cases h
theorem nul_bulk : nul.bulk = 1 := rfl
theorem getD_bulk (t : VT) (x : ByteArray) : (t.getD x).bulk ≤ t.bulk + 1 := by
  unfold getD
  cases h : t.get x with
  | none => show nul.bulk ≤ _; rw [nul_bulk]; omega
  | some u => have := get_bulk h; show u.bulk ≤ _; omega
end VT
end Go.Proofs.YtfploakafbnigaaGreatDoor.Val
namespace Go.Proofs.YtfploakafbnigaaGreatDoor.Val
set_option linter.unusedVariables false
set_option linter.unusedSimpArgs false
namespace VT
def numOf (t : VT) : Int × Bool := Num.int t.text.data.toList
def has (t : VT) (nm : ByteArray) : Bool := (t.get nm).isSome
def wholeN (t : VT) (nm : ByteArray) : Int := (t.getD nm).numOf.1
def textOf (t : VT) (nm : ByteArray) : ByteArray := (t.getD nm).text
theorem text_bulk (t : VT) : t.text.size ≤ t.bulk := by
  cases t with
  | leaf => exact Nat.zero_le _
  | mk k i x n c m => have := (bulk_n k i x n c m).2.1; show x.size ≤ _; omega
def textN : ByteArray := ⟨#[116, 101, 120, 116]⟩
def idN : ByteArray := ⟨#[105, 100]⟩
def lineN : ByteArray := ⟨#[108, 105, 110, 101]⟩
def charN : ByteArray := ⟨#[99, 104, 97, 114, 97, 99, 116, 101, 114]⟩
def rangeN : ByteArray := ⟨#[114, 97, 110, 103, 101]⟩
def startN : ByteArray := ⟨#[115, 116, 97, 114, 116]⟩
def endN : ByteArray := ⟨#[101, 110, 100]⟩
def posL (t : VT) (nm : ByteArray) : Int := (t.getD nm).wholeN lineN
def posC (t : VT) (nm : ByteArray) : Int := (t.getD nm).wholeN charN
/-- an edit -/
structure Ed where
  whole : Bool
  a : Int
  b : Int
  c : Int
  d : Int
  text : ByteArray
def bare (t : VT) : Bool := !t.has rangeN || decide ((t.getD rangeN).kind = 0)
def editOf (t : VT) : Ed := if t.bare then ⟨true, 0, 0, 0, 0, t.textOf textN⟩ else ⟨false, (t.getD rangeN).posL startN, (t.getD rangeN).posC startN, (t.getD rangeN).posL endN, (t.getD rangeN).posC endN, t.textOf textN⟩
def edits (t : VT) (n : Nat) : List Ed := (List.range n).map fun j => (t.kids j).editOf
end VT
end Go.Proofs.YtfploakafbnigaaGreatDoor.Val
namespace Go.Proofs.YtfploakafbnigaaGreatDoor
open Go.RowKit Val
set_option linter.unusedVariables false
set_option linter.unusedSimpArgs false
/-- A row of texts lies in memory, in a block of S. -/
def TS (w : World) (S : Nat → Prop) (a : Option Addr) (l : List ByteArray) : Prop :=
  l = [] ∨ ∃ b off, a = some ⟨b, off, none⟩ ∧ S b ∧ ∀ (j : Nat) (h : j < l.length), w.cell? ⟨b, off + j, none⟩ = some (.string l[j])
/-- Five cells from a place on hold five values. -/
def C5 (w : World) (b o : Nat) (v0 v1 v2 v3 v4 : Value) : Prop := w.cell? ⟨b, o, none⟩ = some v0 ∧ w.cell? ⟨b, o + 1, none⟩ = some v1 ∧ w.cell? ⟨b, o + 2, none⟩ = some v2 ∧ w.cell? ⟨b, o + 3, none⟩ = some v3 ∧ w.cell? ⟨b, o + 4, none⟩ = some v4
/-- A tree of values lies in memory, in blocks of S. -/
def VAL (w : World) (S : Nat → Prop) : VT → Value → Prop
  | .leaf, _ => False
  | .mk k i t n c m, v => ∃ A cap A' cap', v = .agg #[.int .i64 k, .bool i, .string t, .slice A n cap, .slice A' m.length cap'] ∧ (-9223372036854775808 ≤ k ∧ k ≤ 9223372036854775807) ∧ TS w S A' m ∧
      (n = 0 ∨ ∃ b off, A = some ⟨b, off, none⟩ ∧ S b ∧ ∀ j, j < n → ∃ v0 v1 v2 v3 v4, C5 w b (off + j * 5) v0 v1 v2 v3 v4 ∧ VAL w S (c j) (.agg #[v0, v1, v2, v3, v4]))
/-- A row of values: what a slice of n of them is. -/
def VS (w : World) (S : Nat → Prop) (A : Option Addr) (n : Nat) (c : Nat → VT) : Prop :=
  n = 0 ∨ ∃ b off, A = some ⟨b, off, none⟩ ∧ S b ∧ ∀ j, j < n → ∃ v0 v1 v2 v3 v4, C5 w b (off + j * 5) v0 v1 v2 v3 v4 ∧ VAL w S (c j) (.agg #[v0, v1, v2, v3, v4])
theorem VAL.open {w : World} {S : Nat → Prop} {k : Int} {i : Bool} {t : ByteArray} {n : Nat} {c : Nat → VT} {m : List ByteArray} {v : Value} (h : VAL w S (.mk k i t n c m) v) :
    ∃ A cap A' cap', v = .agg #[.int .i64 k, .bool i, .string t, .slice A n cap, .slice A' m.length cap'] ∧ (-9223372036854775808 ≤ k ∧ k ≤ 9223372036854775807) ∧ TS w S A' m ∧ VS w S A n c := h
theorem VAL.shut {w : World} {S : Nat → Prop} {k : Int} {i : Bool} {t : ByteArray} {n cap cap' : Nat} {c : Nat → VT} {m : List ByteArray} {A A' : Option Addr} (hk : -9223372036854775808 ≤ k ∧ k ≤ 9223372036854775807)
    (ht : TS w S A' m) (hv : VS w S A n c) : VAL w S (.mk k i t n c m) (.agg #[.int .i64 k, .bool i, .string t, .slice A n cap, .slice A' m.length cap']) := ⟨_, _, _, _, rfl, hk, ht, hv⟩
/-- every tree that lies in memory has a root -/
theorem VAL.root {w : World} {S : Nat → Prop} {t : VT} {v : Value} (h : VAL w S t v) : ∃ k i x n c m, t = .mk k i x n c m := by
  cases t with
  | leaf => exact h.elim
  | mk k i x n c m => exact ⟨_, _, _, _, _, _, rfl⟩
/-- the blocks of S are the same -/
def Same (S : Nat → Prop) (w w' : World) : Prop := ∀ b, S b → w'.heap[b]? = w.heap[b]?
theorem below_same {w w' : World} {S : Nat → Prop} {B : Nat} (h : Below B w w') (hS : ∀ b, S b → b < B) : Same S w w' := fun b hb => h.block b (hS b hb)
theorem grown_same {w w' : World} {S : Nat → Prop} {row : Option Nat} (h : w.grownBy w' row) (hS : ∀ b, S b → b < w.heap.size ∧ some b ≠ row) : Same S w w' := fun b hb => h.block b (hS b hb).1 (hS b hb).2
theorem set_same {w : World} {S : Nat → Prop} {p : Addr} (u : Value) (hS : ∀ b, S b → b ≠ p.block) : Same S w (w.setCell p u) := fun b hb => Below.heap_setCell w p u b (hS b hb)
theorem Same.trans {w w1 w2 : World} {S : Nat → Prop} (h : Same S w w1) (k : Same S w1 w2) : Same S w w2 := fun b hb => (k b hb).trans (h b hb)
theorem C5.same {w w' : World} {b o : Nat} {v0 v1 v2 v3 v4 : Value} (h : C5 w b o v0 v1 v2 v3 v4) (hb : w'.heap[b]? = w.heap[b]?) : C5 w' b o v0 v1 v2 v3 v4 := by
  have g : ∀ o, w'.cell? ⟨b, o, none⟩ = w.cell? ⟨b, o, none⟩ := fun o => World.cell?_of_block (w := w) hb
  exact ⟨(g _).trans h.1, (g _).trans h.2.1, (g _).trans h.2.2.1, (g _).trans h.2.2.2.1, (g _).trans h.2.2.2.2⟩
theorem TS.same {w w' : World} {S : Nat → Prop} {a : Option Addr} {l : List ByteArray} (h : TS w S a l) (hs : Same S w w') : TS w' S a l := by
  rcases h with h | ⟨b, off, e, h1, hc⟩
  · exact .inl h
  · exact .inr ⟨b, off, e, h1, fun j hj => (World.cell?_of_block (w := w) (hs b h1)).trans (hc j hj)⟩
theorem VAL.same {w w' : World} {S : Nat → Prop} {t : VT} (hs : Same S w w') : ∀ {v : Value}, VAL w S t v → VAL w' S t v := by
  induction t with
  | leaf => intro v h; exact h
  | mk k i x n c m ih =>
    intro v h
    obtain ⟨A, cap, A', cap', e, hk, ht, hv⟩ := h
    refine ⟨A, cap, A', cap', e, hk, ht.same hs, ?_⟩
    rcases hv with h0 | ⟨b, off, e, h1, hc⟩
    · exact .inl h0
    · refine .inr ⟨b, off, e, h1, fun j hj => ?_⟩
      obtain ⟨v0, v1, v2, v3, v4, c5, hr⟩ := hc j hj
      exact ⟨v0, v1, v2, v3, v4, c5.same (hs b h1), ih j hr⟩
theorem VS.same {w w' : World} {S : Nat → Prop} {n : Nat} {A : Option Addr} {c : Nat → VT} (h : VS w S A n c) (hs : Same S w w') : VS w' S A n c := by
  rcases h with h0 | ⟨b, off, e, h1, hc⟩
  · exact .inl h0
  · refine .inr ⟨b, off, e, h1, fun j hj => ?_⟩
    obtain ⟨v0, v1, v2, v3, v4, c5, hr⟩ := hc j hj
    exact ⟨v0, v1, v2, v3, v4, c5.same (hs b h1), hr.same hs⟩
theorem TS.mono {w : World} {S S' : Nat → Prop} {a : Option Addr} {l : List ByteArray} (h : TS w S a l) (hS : ∀ b, S b → S' b) : TS w S' a l := by
  rcases h with h | ⟨b, off, e, g1, hc⟩
  · exact .inl h
  · exact .inr ⟨b, off, e, hS b g1, hc⟩
theorem VAL.mono {w : World} {S S' : Nat → Prop} {t : VT} (hS : ∀ b, S b → S' b) : ∀ {v : Value}, VAL w S t v → VAL w S' t v := by
  induction t with
  | leaf => intro v h; exact h
  | mk k i x n c m ih =>
    intro v h
    obtain ⟨A, cap, A', cap', e, hk, ht, hv⟩ := h
    refine ⟨A, cap, A', cap', e, hk, ht.mono hS, ?_⟩
    rcases hv with h0 | ⟨b, off, e, g1, hc⟩
    · exact .inl h0
    · refine .inr ⟨b, off, e, hS b g1, fun j hj => ?_⟩
      obtain ⟨v0, v1, v2, v3, v4, c5, hr⟩ := hc j hj
      exact ⟨v0, v1, v2, v3, v4, c5, ih j hr⟩
theorem VS.mono {w : World} {S S' : Nat → Prop} {n : Nat} {A : Option Addr} {c : Nat → VT} (h : VS w S A n c) (hS : ∀ b, S b → S' b) : VS w S' A n c := by
  rcases h with h0 | ⟨b, off, e, g1, hc⟩
  · exact .inl h0
  · refine .inr ⟨b, off, e, hS b g1, fun j hj => ?_⟩
    obtain ⟨v0, v1, v2, v3, v4, c5, hr⟩ := hc j hj
    exact ⟨v0, v1, v2, v3, v4, c5, hr.mono hS⟩
/-- what was made since w, as it lies in w' -/
def New (w w' : World) (b : Nat) : Prop := w.heap.size ≤ b ∧ b < w'.heap.size
theorem TS.on {w w' : World} {S : Nat → Prop} {a : Option Addr} {l : List ByteArray} (h : TS w S a l) (hS : ∀ b, S b → b < w.heap.size) (hb : Below w.heap.size w w') : TS w' S a l := h.same (below_same hb hS)
theorem VAL.on {w w' : World} {S : Nat → Prop} {t : VT} {v : Value} (h : VAL w S t v) (hS : ∀ b, S b → b < w.heap.size) (hb : Below w.heap.size w w') : VAL w' S t v := h.same (below_same hb hS)
theorem VS.on {w w' : World} {S : Nat → Prop} {n : Nat} {A : Option Addr} {c : Nat → VT} (h : VS w S A n c) (hS : ∀ b, S b → b < w.heap.size) (hb : Below w.heap.size w w') : VS w' S A n c := h.same (below_same hb hS)
/-- a value, boxed, in block g -/
def BX (w : World) (g : Nat) (v0 v1 v2 v3 v4 : Value) : Prop := w.heap[g]? = some (.cells #[v0, v1, v2, v3, v4] 25 (0, 0))
theorem BX.c0 {w : World} {g : Nat} {v0 v1 v2 v3 v4 : Value} (h : BX w g v0 v1 v2 v3 v4) : w.cell? ⟨g, 0, none⟩ = some v0 := by rw [cell_of_row w g 0 _ _ _ h]; rfl
theorem BX.c1 {w : World} {g : Nat} {v0 v1 v2 v3 v4 : Value} (h : BX w g v0 v1 v2 v3 v4) : w.cell? ⟨g, 1, none⟩ = some v1 := by rw [cell_of_row w g 1 _ _ _ h]; rfl
theorem BX.c2 {w : World} {g : Nat} {v0 v1 v2 v3 v4 : Value} (h : BX w g v0 v1 v2 v3 v4) : w.cell? ⟨g, 2, none⟩ = some v2 := by rw [cell_of_row w g 2 _ _ _ h]; rfl
theorem BX.c3 {w : World} {g : Nat} {v0 v1 v2 v3 v4 : Value} (h : BX w g v0 v1 v2 v3 v4) : w.cell? ⟨g, 3, none⟩ = some v3 := by rw [cell_of_row w g 3 _ _ _ h]; rfl
theorem BX.c4 {w : World} {g : Nat} {v0 v1 v2 v3 v4 : Value} (h : BX w g v0 v1 v2 v3 v4) : w.cell? ⟨g, 4, none⟩ = some v4 := by rw [cell_of_row w g 4 _ _ _ h]; rfl
theorem BX.fr {w : World} {g : Nat} {v0 v1 v2 v3 v4 : Value} (h : BX w g v0 v1 v2 v3 v4) (i : Nat) : w.frozen? ⟨g, i, none⟩ = false := by unfold BX at h; simp [World.frozen?, h]
theorem BX.lt {w : World} {g : Nat} {v0 v1 v2 v3 v4 : Value} (h : BX w g v0 v1 v2 v3 v4) : g < w.heap.size := (Array.getElem?_eq_some_iff.1 h).1
theorem BX.same {w w' : World} {g : Nat} {v0 v1 v2 v3 v4 : Value} (h : BX w g v0 v1 v2 v3 v4) (hb : w'.heap[g]? = w.heap[g]?) : BX w' g v0 v1 v2 v3 v4 := hb.trans h
theorem BX.on {w w' : World} {g : Nat} {v0 v1 v2 v3 v4 : Value} (h : BX w g v0 v1 v2 v3 v4) (hb : Below w.heap.size w w') : BX w' g v0 v1 v2 v3 v4 := (hb.block g h.lt).trans h
theorem BX.new (w : World) (v0 v1 v2 v3 v4 : Value) : BX (w.alloc (.cells #[v0, v1, v2, v3, v4] 25)) w.heap.size v0 v1 v2 v3 v4 := heap_alloc_new w _
theorem BX.far {w : World} {g : Nat} {v0 v1 v2 v3 v4 : Value} (h : BX w g v0 v1 v2 v3 v4) {p : Addr} (u : Value) (hp : g ≠ p.block) : BX (w.setCell p u) g v0 v1 v2 v3 v4 := (Below.heap_setCell w p u g hp).trans h
theorem BX.alloc {w : World} {g : Nat} {v0 v1 v2 v3 v4 : Value} (h : BX w g v0 v1 v2 v3 v4) (o : Obj) : BX (w.alloc o) g v0 v1 v2 v3 v4 := (Below.heap_alloc w o g h.lt).trans h
theorem BX.set3 {w : World} {g : Nat} {v0 v1 v2 v3 v4 : Value} (h : BX w g v0 v1 v2 v3 v4) (z : Value) : BX (w.setCell ⟨g, 3, none⟩ z) g v0 v1 v2 z v4 := by
  unfold BX at h ⊢
  simp [World.setCell, Array.getElem?_modify, h]
theorem BX.set4 {w : World} {g : Nat} {v0 v1 v2 v3 v4 : Value} (h : BX w g v0 v1 v2 v3 v4) (z : Value) : BX (w.setCell ⟨g, 4, none⟩ z) g v0 v1 v2 v3 z := by
  unfold BX at h ⊢
  simp [World.setCell, Array.getElem?_modify, h]
theorem BX.set0 {w : World} {g : Nat} {v0 v1 v2 v3 v4 : Value} (h : BX w g v0 v1 v2 v3 v4) (z : Value) : BX (w.setCell ⟨g, 0, none⟩ z) g z v1 v2 v3 v4 := by
  unfold BX at h ⊢
  simp [World.setCell, Array.getElem?_modify, h]
theorem BX.set1 {w : World} {g : Nat} {v0 v1 v2 v3 v4 : Value} (h : BX w g v0 v1 v2 v3 v4) (z : Value) : BX (w.setCell ⟨g, 1, none⟩ z) g v0 z v2 v3 v4 := by
  unfold BX at h ⊢
  simp [World.setCell, Array.getElem?_modify, h]
theorem BX.set2 {w : World} {g : Nat} {v0 v1 v2 v3 v4 : Value} (h : BX w g v0 v1 v2 v3 v4) (z : Value) : BX (w.setCell ⟨g, 2, none⟩ z) g v0 v1 z v3 v4 := by
  unfold BX at h ⊢
  simp [World.setCell, Array.getElem?_modify, h]
/-- the same, behind all five stores -/
theorem BX.put {w : World} {g : Nat} {v0 v1 v2 v3 v4 : Value} (h : BX w g v0 v1 v2 v3 v4) (z0 z1 z2 z3 z4 : Value) :
    BX (((((w.setCell ⟨g, 0, none⟩ z0).setCell ⟨g, 1, none⟩ z1).setCell ⟨g, 2, none⟩ z2).setCell ⟨g, 3, none⟩ z3).setCell ⟨g, 4, none⟩ z4) g z0 z1 z2 z3 z4 := ((((h.set0 z0).set1 z1).set2 z2).set3 z3).set4 z4
theorem ret_bool' {a b : Bool} (h : a = b) : Ending.returned (.bool a) = .returned (.bool b) := by rw [h]
theorem take_snocT (l : List ByteArray) (k : Nat) (h : k < l.length) : l.take (k + 1) = l.take k ++ [l[k]] := by
  rw [List.take_succ_eq_append_getElem h]
theorem str_ne {z y : ByteArray} (h : z ≠ y) : (z.toList == y.toList) = false ∧ ¬ z.toList = y.toList := by
  have : ¬ z.toList = y.toList := fun e => h (by
    rw [Lib.toList_data, Lib.toList_data] at e
    obtain ⟨a⟩ := z; obtain ⟨b⟩ := y
    exact congrArg ByteArray.mk (Array.toList_inj.1 e))
  exact ⟨by rw [beq_eq_false_iff_ne]; exact this, this⟩
end Go.Proofs.YtfploakafbnigaaGreatDoor
namespace Go.Proofs.YtfploakafbnigaaGreatDoor
open Go.RowKit Val
set_option linter.unusedVariables false
set_option linter.unusedSimpArgs false
/-- a row of cells, five a value, reads as values -/
def VR (w : World) (S : Nat → Prop) (xs : List Value) (p : Nat) (c : Nat → VT) : Prop :=
  xs.length = p * 5 ∧ ∀ j, j < p → ∃ v0 v1 v2 v3 v4, xs[j * 5]? = some v0 ∧ xs[j * 5 + 1]? = some v1 ∧ xs[j * 5 + 2]? = some v2 ∧ xs[j * 5 + 3]? = some v3 ∧ xs[j * 5 + 4]? = some v4 ∧ VAL w S (c j) (.agg #[v0, v1, v2, v3, v4])
theorem VR.nil (w : World) (S : Nat → Prop) (c : Nat → VT) : VR w S [] 0 c := ⟨rfl, fun j hj => by omega⟩
theorem VR.same {w w' : World} {S S' : Nat → Prop} {xs : List Value} {p : Nat} {c : Nat → VT} (h : VR w S xs p c) (hs : Same S w w') (hS : ∀ b, S b → S' b) : VR w' S' xs p c :=
  ⟨h.1, fun j hj => by
    obtain ⟨v0, v1, v2, v3, v4, e0, e1, e2, e3, e4, hv⟩ := h.2 j hj
    exact ⟨v0, v1, v2, v3, v4, e0, e1, e2, e3, e4, (hv.same hs).mono hS⟩⟩
theorem VR.snoc {w : World} {S : Nat → Prop} {xs : List Value} {p : Nat} {c : Nat → VT} {v0 v1 v2 v3 v4 : Value} (h : VR w S xs p c) (hv : VAL w S (c p) (.agg #[v0, v1, v2, v3, v4])) : VR w S (xs ++ [v0, v1, v2, v3, v4]) (p + 1) c := by
  have hl := h.1
  refine ⟨by rw [List.length_append, hl]; simp; omega, fun j hj => ?_⟩
  by_cases e : j = p
  · subst e
    refine ⟨v0, v1, v2, v3, v4, ?_, ?_, ?_, ?_, ?_, hv⟩ <;> rw [List.getElem?_append_right (by omega)]
    · rw [show j * 5 - xs.length = 0 by omega]; rfl
    · rw [show j * 5 + 1 - xs.length = 1 by omega]; rfl
    · rw [show j * 5 + 2 - xs.length = 2 by omega]; rfl
    · rw [show j * 5 + 3 - xs.length = 3 by omega]; rfl
    · rw [show j * 5 + 4 - xs.length = 4 by omega]; rfl
  · obtain ⟨u0, u1, u2, u3, u4, e0, e1, e2, e3, e4, hu⟩ := h.2 j (by omega)
    have g : ∀ k u, xs[k]? = some u → (xs ++ [v0, v1, v2, v3, v4])[k]? = some u := fun k u hk => by
      rw [List.getElem?_append_left (by rcases Nat.lt_or_ge k xs.length with h | h; exact h; rw [List.getElem?_eq_none h] at hk; cases hk)]; exact hk
    exact ⟨u0, u1, u2, u3, u4, g _ _ e0, g _ _ e1, g _ _ e2, g _ _ e3, g _ _ e4, hu⟩
theorem own_cell {w : World} {base : Nat} {e : TypeId} {size : Nat} {g n cap : Nat} {xs : List Value} (h : w.ownsRow base e size (.slice (some ⟨g, 0, none⟩) n cap) n xs) (j : Nat) (u : Value) (hu : xs[j]? = some u) : w.cell? ⟨g, j, none⟩ = some u := by
  have := h.cells (g := g) rfl j u hu
  rwa [show (⟨g, 0, none⟩ : Addr).add j = ⟨g, j, none⟩ by unfold Addr.add; split <;> simp_all] at this
theorem VS_of_own {w : World} {base : Nat} {e : TypeId} {S S' : Nat → Prop} {ov : Value} {n : Nat} {xs : List Value} {c : Nat → VT} (h : w.ownsRow base e 5 ov n xs) (hr : VR w S xs n c) (hS : ∀ b, S b → S' b) (hb : ∀ b, ov.ownBlock = some b → S' b) :
    ∃ A cap, ov = .slice A n cap ∧ VS w S' A n c := by
  have h2 := h.2
  rcases h2 with ⟨rfl, rfl⟩ | ⟨g, cap, cur, rfl, hbg, hh, hn, hm, hcs, htk⟩
  · exact ⟨none, 0, rfl, .inl rfl⟩
  · refine ⟨some ⟨g, 0, none⟩, cap, rfl, .inr ⟨g, 0, rfl, hb g rfl, fun j hj => ?_⟩⟩
    obtain ⟨v0, v1, v2, v3, v4, e0, e1, e2, e3, e4, hv⟩ := hr.2 j hj
    refine ⟨v0, v1, v2, v3, v4, ⟨?_, ?_, ?_, ?_, ?_⟩, hv.mono hS⟩
    all_goals
      rw [Nat.zero_add]
      exact own_cell h _ _ (by assumption)
theorem TS_of_own {w : World} {base : Nat} {e : TypeId} {S' : Nat → Prop} {ov : Value} {l : List ByteArray} (h : w.ownsRow base e 1 ov l.length (l.map Value.string)) (hb : ∀ b, ov.ownBlock = some b → S' b) :
    ∃ A cap, ov = .slice A l.length cap ∧ TS w S' A l := by
  have h2 := h.2
  rcases h2 with ⟨rfl, h0⟩ | ⟨g, cap, cur, rfl, hbg, hh, hn, hm, hcs, htk⟩
  · rw [h0]; exact ⟨none, 0, rfl, .inl (List.eq_nil_of_length_eq_zero h0)⟩
  · refine ⟨some ⟨g, 0, none⟩, cap, rfl, .inr ⟨g, 0, rfl, hb g rfl, fun j hj => ?_⟩⟩
    rw [Nat.zero_add]
    exact own_cell h _ _ (by simp [hj])
theorem own_far {w : World} {base e size n : Nat} {v : Value} {xs : List Value} (h : w.ownsRow base e size v n xs) {p : Addr} (x : Value) (hg : p.block < base) : (w.setCell p x).ownsRow base e size v n xs := by
  obtain ⟨h1, h2⟩ := h
  refine ⟨h1, ?_⟩
  rcases h2 with h2 | ⟨b, cap, cur, rfl, hb, hh, h3⟩
  · exact .inl h2
  · exact .inr ⟨b, cap, cur, rfl, hb, by rw [Below.heap_setCell _ _ _ _ (by omega)]; exact hh, h3⟩
theorem own_on {w w' : World} {base e size n : Nat} {v : Value} {xs : List Value} (h : w.ownsRow base e size v n xs) (hb : Below w.heap.size w w') : w'.ownsRow base e size v n xs := by
  obtain ⟨h1, h2⟩ := h
  refine ⟨h1, ?_⟩
  rcases h2 with h2 | ⟨b, cap, cur, rfl, hbb, hh, h3⟩
  · exact .inl h2
  · exact .inr ⟨b, cap, cur, rfl, hbb, by rw [hb.block b (Array.getElem?_eq_some_iff.1 hh).1]; exact hh, h3⟩
/-- every value's cells are one cell each -/
theorem VAL.one {w : World} {S : Nat → Prop} {t : VT} {v0 v1 v2 v3 v4 : Value} (h : VAL w S t (.agg #[v0, v1, v2, v3, v4])) : ∀ u ∈ [v0, v1, v2, v3, v4], u.oneCell' = true := by
  obtain ⟨k, i, x, n, c, m, rfl⟩ := h.root
  obtain ⟨A, cap, A', cap', e, -⟩ := h
  injection e with e
  injection e with e
  injection e with a0 e; injection e with a1 e; injection e with a2 e; injection e with a3 e; injection e with a4 e
  subst a0 a1 a2 a3 a4
  intro u hu
  simp only [List.mem_cons, List.mem_nil_iff, or_false] at hu
  rcases hu with h | h | h | h | h <;> subst h <;> rfl
theorem VAL.five {w : World} {S : Nat → Prop} {t : VT} {v : Value} (h : VAL w S t v) : ∃ v0 v1 v2 v3 v4, v = .agg #[v0, v1, v2, v3, v4] := by
  obtain ⟨k, i, x, n, c, m, rfl⟩ := h.root
  obtain ⟨A, cap, A', cap', e, -⟩ := h
  exact ⟨_, _, _, _, _, e⟩
theorem Tryz.infoV : (Tryz.prog.info? 25).map (fun i => (i.zero, i.size, i.bytes)) = some (some (.agg #[.int .i64 0, .bool false, .string .empty, .slice none 0 0, .slice none 0 0]), 5, 80) := by kernel_rfl
theorem Tryz.infoS : (Tryz.prog.info? 9).map (fun i => (i.zero, i.size, i.bytes)) = some (some (.string .empty), 1, 16) := by kernel_rfl
theorem al2_0 (w : World) (a b : Obj) : ((w.alloc a).alloc b).heap[w.heap.size]? = some a := (Below.heap_alloc _ _ _ (by simp)).trans (heap_alloc_new w a)
theorem al2_1 (w : World) (a b : Obj) : ((w.alloc a).alloc b).heap[w.heap.size + 1]? = some b := by
  have := heap_alloc_new (w.alloc a) b
  rwa [show (w.alloc a).heap.size = w.heap.size + 1 by simp] at this
theorem al2_below (w : World) (a b : Obj) : Below w.heap.size w ((w.alloc a).alloc b) := ((Below.refl _ _).alloc (Nat.le_refl _) _).alloc (by simp) _
theorem below_drewN {B : Nat} {a w : World} (h : Below B a w) (q : Nat) : Below B a (w.drewN q) := ⟨h.os, h.tape, h.output, h.size, h.block⟩
/-- a value's own five parts, spelt -/
theorem VAL.shape {w : World} {S : Nat → Prop} {t : VT} {v : Value} (h : VAL w S t v) : ∃ k i x A n cap A' n' cap', v = .agg #[.int .i64 k, .bool i, .string x, .slice A n cap, .slice A' n' cap'] := by
  obtain ⟨k, i, x, n, c, m, rfl⟩ := h.root
  obtain ⟨A, cap, A', cap', e, -⟩ := h
  exact ⟨_, _, _, _, _, _, _, _, _, e⟩
/-- behind five stores into block g -/
def five (w : World) (g : Nat) (u0 u1 u2 u3 u4 : Value) : World := ((((w.setCell ⟨g, 0, none⟩ u0).setCell ⟨g, 1, none⟩ u1).setCell ⟨g, 2, none⟩ u2).setCell ⟨g, 3, none⟩ u3).setCell ⟨g, 4, none⟩ u4
theorem five_same {S : Nat → Prop} (w : World) (g : Nat) (u0 u1 u2 u3 u4 : Value) (hS : ∀ b, S b → b ≠ g) : Same S w (five w g u0 u1 u2 u3 u4) :=
  ((((set_same (p := ⟨g, 0, none⟩) u0 hS).trans (set_same (p := ⟨g, 1, none⟩) u1 hS)).trans (set_same (p := ⟨g, 2, none⟩) u2 hS)).trans (set_same (p := ⟨g, 3, none⟩) u3 hS)).trans (set_same (p := ⟨g, 4, none⟩) u4 hS)
theorem five_below {B : Nat} {w0 w : World} (h : Below B w0 w) (g : Nat) (u0 u1 u2 u3 u4 : Value) (hg : B ≤ g) : Below B w0 (five w g u0 u1 u2 u3 u4) :=
  ((((h.setCell (p := ⟨g, 0, none⟩) hg u0).setCell (p := ⟨g, 1, none⟩) hg u1).setCell (p := ⟨g, 2, none⟩) hg u2).setCell (p := ⟨g, 3, none⟩) hg u3).setCell (p := ⟨g, 4, none⟩) hg u4
theorem five_size (w : World) (g : Nat) (u0 u1 u2 u3 u4 : Value) : (five w g u0 u1 u2 u3 u4).heap.size = w.heap.size := by simp [five, World.setCell]
/-- a value, made by a call: it lies in new memory -/
def Copied (t : VT) (w : World) (e : Ending) (w' : World) : Prop := ∃ v', e = .returned v' ∧ VAL w' (New w w') t v' ∧ Below w.heap.size w w'
end Go.Proofs.YtfploakafbnigaaGreatDoor
namespace Go.Proofs.YtfploakafbnigaaGreatDoor
open Go.RowKit Val
set_option linter.unusedVariables false
set_option linter.unusedSimpArgs false
def eqT (a b : List ByteArray) : Bool := decide (a = b)
set_option maxHeartbeats 1000000 in
/-- EqTexts. -/
theorem EqTexts_any (A A' : Option Addr) (c c' : Nat) (S S' : Nat → Prop) (l r : List ByteArray) (w : World) (hl : TS w S A l) (hr : TS w S' A' r) (hn : l.length ≤ 140737488355328) (hn' : r.length ≤ 140737488355328) :
    Calls Tryz.prog 68 #[.slice A l.length c, .slice A' r.length c'] w fun e w' => e = .returned (.bool (eqT l r)) ∧ ∃ n, w' = w.drewN n := by
  by_cases hlen : l.length = r.length
  · have hq : ((l.length : Int) != (r.length : Int)) = false := by rw [hlen]; simp
    have HLN := Lib.hid hlen
    have HL := Lib.hid hl
    have HR := Lib.hid hr
    have hle : l.length ≤ r.length := by omega
    clear hl hr hlen
    go_enter Tryz.func68, Tryz.ntmps68
    go_wp2
    go_loopg [5] l.length (fun k v wr => ∃ p : Nat, p + k = l.length ∧ v = .int .i64 p ∧ (∃ n, wr = w.drewN n) ∧ l.take p = r.take p)
    case atStart => exact ⟨0, by omega, rfl, ⟨0, rfl⟩, rfl⟩
    case round =>
      obtain ⟨p, hk, rfl, ⟨n, rfl⟩, hp⟩ := hrel
      have HK := Lib.hid hk
      have HP := Lib.hid hp
      clear hk hp
      by_cases hlt : p < l.length
      · have hlt' : p < r.length := by omega
        have e1 : (p : Int) < (l.length : Int) := by omega
        have e2 : (p : Int) < (r.length : Int) := by omega
        have e0 : (0 : Int) ≤ p := by omega
        rcases HL.out with h | ⟨b, off, rfl, -, hc⟩
        · subst h; simp at hlt
        rcases HR.out with h | ⟨b', off', rfl, -, hc'⟩
        · subst h; simp at hlt'
        have k1 := hc p hlt
        have k2 := hc' p hlt'
        clear hc hc'
        by_cases hx : l[p] = r[p]
        · have HX := Lib.hid (show l.take (p + 1) = r.take (p + 1) by rw [take_snocT l p hlt, take_snocT r p hlt', HP.out, hx])
          rw [hx] at k1
          generalize r[p] = z at *
          clear hx
          go_wp2_with fail
          go_quiet (fail)
          go_wp2
          go_roundg (gk - 1)
          case measure => have := HK.out; omega
          case rel => exact ⟨p + 1, by have := HK.out; omega, by go_num, ⟨n + nq, by simp⟩, HX.out⟩
        · have he : eqT l r = false := by
            unfold eqT; rw [decide_eq_false_iff_not]; intro h; subst h; exact hx rfl
          have HE := Lib.hid he
          generalize l[p] = z at *
          generalize r[p] = y at *
          obtain ⟨hq1, hq2⟩ := str_ne hx
          clear hx he
          go_wp2_with fail
          go_quiet (fail)
          go_wp2
          go_ret
          exact ⟨ret_bool' HE.out.symm, n + nq, by simp⟩
      · have he : eqT l r = true := by
          have h1 := HP.out
          rw [List.take_of_length_le (by omega), List.take_of_length_le (by have := HLN.out; omega)] at h1
          unfold eqT; rw [h1]; simp
        have HE := Lib.hid he
        clear he
        have h1 : decide (p < l.length) = false := by simp; omega
        go_wp2
        go_ret
        exact ⟨ret_bool' HE.out.symm, n, rfl⟩
  · have hq : ((l.length : Int) != (r.length : Int)) = true := by rw [bne_iff_ne]; omega
    have hq2 : (l.length != r.length) = true := by rw [bne_iff_ne]; exact hlen
    have HE := Lib.hid (show eqT l r = false by unfold eqT; rw [decide_eq_false_iff_not]; intro h; exact hlen (by rw [h]))
    clear hl hr hlen
    go_enter Tryz.func68, Tryz.ntmps68
    go_wp2
    go_ret
    exact ⟨ret_bool' HE.out.symm, 0, rfl⟩
end Go.Proofs.YtfploakafbnigaaGreatDoor
namespace Go.Proofs.YtfploakafbnigaaGreatDoor
open Go.RowKit Val
set_option linter.unusedVariables false
set_option linter.unusedSimpArgs false
/-- some bool; below the heap's end nothing has turned -/
def SomeB (w : World) (e : Ending) (w' : World) : Prop := (∃ b, e = .returned (.bool b)) ∧ Below w.heap.size w w'
set_option maxHeartbeats 1000000 in
theorem Deep_any (t : VT) : ∀ (d : Int) (w : World) (S : Nat → Prop) (v : Value), VAL w S t v → (∀ b, S b → b < w.heap.size) → -1 ≤ d → d ≤ 1000 → t.bulk ≤ 1073741824 →
    Calls Tryz.prog 88 #[v, .int .i64 d] w (SomeB w) := by
  induction t with
  | leaf => intro d w S v h; exact h.elim
  | mk k i x n c m ih =>
    intro d w S v h hS hd hd2 hbk
    obtain ⟨A, cap, A', cap', rfl, hk, hT, hV⟩ := h.open
    have hn := (VT.bulk_n k i x n c m).1
    have hn' : n ≤ 1073741824 := by omega
    have hbk' : ∀ j, j < n → (c j).bulk ≤ 1073741824 := fun j hj => by have := VT.bulk_kid k i x n c m j hj; omega
    have HS := Lib.hid hS
    clear h hT hk hn hS
    by_cases hd0 : d < 0
    · clear hV hbk' ih
      go_enter Tryz.func88, Tryz.ntmps88
      go_wp2
      go_ret
      exact ⟨⟨_, rfl⟩, (Below.refl _ _).alloc (Nat.le_refl _) _⟩
    · have HV := Lib.hid hV
      have HI := Lib.hid ih
      have HK := Lib.hid hbk'
      clear hV ih hbk'
      go_enter Tryz.func88, Tryz.ntmps88
      go_wp2
      go_loopg [5] n (fun q v wr => ∃ p : Nat, p + q = n ∧ v = .int .i64 p ∧ Below w.heap.size w wr ∧ BX wr w.heap.size (.int .i64 k) (.bool i) (.string x) (.slice A n cap) (.slice A' m.length cap'))
      case atStart => exact ⟨0, by omega, rfl, (Below.refl _ _).alloc (Nat.le_refl _) _, BX.new _ _ _ _ _ _⟩
      case round =>
        obtain ⟨p, hp, rfl, hB, hX⟩ := hrel
        have b0 := hX.c0
        have b1 := hX.c1
        have b2 := hX.c2
        have b3 := hX.c3
        have b4 := hX.c4
        have HX := Lib.hid hX
        have HP := Lib.hid hp
        have HB := Lib.hid hB
        clear hX hp
        by_cases hlt : p < n
        · have hVw := HV.out.on HS.out hB
          rcases hVw with h0 | ⟨b, off, rfl, hbS, hc⟩
          · omega
          obtain ⟨v0, v1, v2, v3, v4, ⟨c0, c1, c2, c3, c4⟩, hr⟩ := hc p hlt
          have hI := HI.out p (d - 1) wr S _ hr (fun b hb => Nat.lt_of_lt_of_le (HS.out b hb) hB.size) (by omega) (by omega) (HK.out p hlt)
          have H1 := Lib.hid hI
          clear hc hr hI hB
          go_wp2_with fail
          refine (H1.out).mono ?_
          rintro e w' ⟨⟨b, rfl⟩, hb⟩
          have HB' := Lib.hid (HB.out.trans (hb.mono HB.out.size))
          have HX' := Lib.hid (HX.out.on hb)
          clear hb
          cases b
          · go_wp2
            go_roundg (gk - 1)
            case measure => have := HP.out; omega
            case rel => exact ⟨p + 1, by have := HP.out; omega, by go_num, HB'.out, HX'.out⟩
          · go_wp2
            go_ret
            exact ⟨⟨_, rfl⟩, HB'.out⟩
        · have h1 : decide (p < n) = false := by simp; omega
          clear hB
          go_wp2
          go_ret
          exact ⟨⟨_, rfl⟩, HB.out⟩
end Go.Proofs.YtfploakafbnigaaGreatDoor
namespace Go.Proofs.YtfploakafbnigaaGreatDoor
open Go.RowKit Val
set_option linter.unusedVariables false
set_option linter.unusedSimpArgs false
set_option maxHeartbeats 1000000 in
theorem DeepList_any (n : Nat) (c : Nat → VT) (w : World) (S : Nat → Prop) (A : Option Addr) (cap : Nat) (h : VS w S A n c) (hS : ∀ b, S b → b < w.heap.size) (hn : n ≤ 1073741824) (hbk : ∀ j, j < n → (c j).bulk ≤ 1073741824) :
    Calls Tryz.prog 31 #[.slice A n cap] w (SomeB w) := by
  have HS := Lib.hid hS
  have HV := Lib.hid h
  have HK := Lib.hid hbk
  clear h hS hbk
  go_enter Tryz.func31, Tryz.ntmps31
  go_wp2
  go_loopg [3] n (fun q v wr => ∃ p : Nat, p + q = n ∧ v = .int .i64 p ∧ Below w.heap.size w wr)
  case atStart => exact ⟨0, by omega, rfl, Below.refl _ _⟩
  case round =>
    obtain ⟨p, hp, rfl, hB⟩ := hrel
    have HP := Lib.hid hp
    have HB := Lib.hid hB
    clear hp
    by_cases hlt : p < n
    · have hVw := HV.out.on HS.out hB
      rcases hVw with h0 | ⟨b, off, rfl, hbS, hc⟩
      · omega
      obtain ⟨v0, v1, v2, v3, v4, ⟨c0, c1, c2, c3, c4⟩, hr⟩ := hc p hlt
      have hI := Deep_any (c p) 990 wr S _ hr (fun b hb => Nat.lt_of_lt_of_le (HS.out b hb) hB.size) (by omega) (by omega) (HK.out p hlt)
      have H1 := Lib.hid hI
      clear hc hr hI hB
      go_wp2_with fail
      refine (H1.out).mono ?_
      rintro e w' ⟨⟨b, rfl⟩, hb⟩
      have HB' := Lib.hid (HB.out.trans (hb.mono HB.out.size))
      clear hb
      cases b
      · go_wp2
        go_roundg (gk - 1)
        case measure => have := HP.out; omega
        case rel => exact ⟨p + 1, by have := HP.out; omega, by go_num, HB'.out⟩
      · go_wp2
        go_ret
        exact ⟨⟨_, rfl⟩, HB'.out⟩
    · have h1 : decide (p < n) = false := by simp; omega
      clear hB
      go_wp2
      go_ret
      exact ⟨⟨_, rfl⟩, HB.out⟩
end Go.Proofs.YtfploakafbnigaaGreatDoor
