/-
  Joined texts: ValCopy ValEqual ValRefGet ValClone ValPCopy ValGet.
-/
import Derived.Test.YtfploakafbnigaaGreatDoorCPkValA
import Derived.Test.YtfploakafbnigaaGreatDoorWLast
import Derived.WalkSpells
import Derived.WalkLawsBesides
import Derived.BigQuiet
import Derived.Deep.QuietTactic
import Derived.Deep.LoopGhost
import Derived.Deep.AppendLies
import Derived.Deep.DeepFit
import Derived.StillTailTactics
import Derived.Lib.LazyBuf
namespace Go.Proofs.YtfploakafbnigaaGreatDoor
open Go.RowKit Val Go.Proofs.YtfploakafbnigaaGreatDoorW.PrintLast
set_option linter.unusedVariables false
set_option linter.unusedSimpArgs false
/-- what the drawn region of the loop reads -/
structure CpS (g1 g3 b off n cap p : Nat) (ov e0 e1 e2 e3 e4 : Value) (w : World) : Prop where
  s0 : w.cell? ⟨g3, 3, none⟩ = some ov
  s1 : w.cell? ⟨g1, 3, none⟩ = some (.slice (some ⟨b, off, none⟩) n cap)
  s2 : w.cell? ⟨b, off + p * 5, none⟩ = some e0
  s3 : w.cell? ⟨b, off + p * 5 + 1, none⟩ = some e1
  s4 : w.cell? ⟨b, off + p * 5 + 2, none⟩ = some e2
  s5 : w.cell? ⟨b, off + p * 5 + 3, none⟩ = some e3
  s6 : w.cell? ⟨b, off + p * 5 + 4, none⟩ = some e4
theorem CpS.same {g1 g3 b off n cap p : Nat} {ov e0 e1 e2 e3 e4 : Value} {w w' : World} (h : CpS g1 g3 b off n cap p ov e0 e1 e2 e3 e4 w) (h1 : w'.heap[g1]? = w.heap[g1]?) (h3 : w'.heap[g3]? = w.heap[g3]?) (hb : w'.heap[b]? = w.heap[b]?) :
    CpS g1 g3 b off n cap p ov e0 e1 e2 e3 e4 w' := by
  have k1 : ∀ o, w'.cell? ⟨g1, o, none⟩ = w.cell? ⟨g1, o, none⟩ := fun o => World.cell?_of_block (w := w) h1
  have k3 : ∀ o, w'.cell? ⟨g3, o, none⟩ = w.cell? ⟨g3, o, none⟩ := fun o => World.cell?_of_block (w := w) h3
  have kb : ∀ o, w'.cell? ⟨b, o, none⟩ = w.cell? ⟨b, o, none⟩ := fun o => World.cell?_of_block (w := w) hb
  exact ⟨(k3 _).trans h.s0, (k1 _).trans h.s1, (kb _).trans h.s2, (kb _).trans h.s3, (kb _).trans h.s4, (kb _).trans h.s5, (kb _).trans h.s6⟩
theorem CpS.on {g1 g3 b off n cap p : Nat} {ov e0 e1 e2 e3 e4 : Value} {w w' : World} (h : CpS g1 g3 b off n cap p ov e0 e1 e2 e3 e4 w) (hb : Below w.heap.size w w') : CpS g1 g3 b off n cap p ov e0 e1 e2 e3 e4 w' :=
  h.same (hb.block _ (World.block_lt_of_cell? w _ h.s1)) (hb.block _ (World.block_lt_of_cell? w _ h.s0)) (hb.block _ (World.block_lt_of_cell? w _ h.s2))
/-- the loop's memory: v's box, the result's place, out; the copies made so far -/
structure CpR (w : World) (bx zz : Array Value) (k : Int) (i : Bool) (x : ByteArray) (c : Nat → VT) (p : Nat) (ov : Value) (xs : List Value) (g2 g3 : Nat) (W : World) : Prop where
  box : W.heap[w.heap.size]? = some (.cells bx 25 (0, 0))
  res : W.heap[g2]? = some (.cells zz 25 (0, 0))
  out : BX W g3 (.int .i64 k) (.bool i) (.string x) ov (.slice none 0 0)
  below : Below w.heap.size w W
  own : W.ownsRow (w.heap.size + 3) 25 5 ov p xs
  row : VR W (fun b => w.heap.size + 3 ≤ b ∧ b < W.heap.size ∧ ov.ownBlock ≠ some b) xs p c
  size : w.heap.size + 3 ≤ W.heap.size
theorem CpR.on {w : World} {bx zz : Array Value} {k : Int} {i : Bool} {x : ByteArray} {c : Nat → VT} {p : Nat} {ov : Value} {xs : List Value} {g2 g3 : Nat} {W W' : World} (h : CpR w bx zz k i x c p ov xs g2 g3 W) (hb : Below W.heap.size W W') :
    CpR w bx zz k i x c p ov xs g2 g3 W' where
  box := (hb.block _ (Array.getElem?_eq_some_iff.1 h.box).1).trans h.box
  res := (hb.block _ (Array.getElem?_eq_some_iff.1 h.res).1).trans h.res
  out := h.out.on hb
  below := h.below.trans (hb.mono h.below.size)
  own := own_on h.own hb
  row := h.row.same (below_same hb (fun b hb => hb.2.1)) (fun b hb' => ⟨hb'.1, Nat.lt_of_lt_of_le hb'.2.1 hb.size, hb'.2.2⟩)
  size := Nat.le_trans h.size hb.size
theorem own_ne {w : World} {base e size n g : Nat} {v : Value} {xs : List Value} (h : w.ownsRow base e size v n xs) (hg : g < base) : some g ≠ v.ownBlock := fun e => by
  have := (h.lt g e.symm).1
  omega
/-- behind the append: all but out's field -/
theorem CpR.grown {w : World} {bx zz : Array Value} {k : Int} {i : Bool} {x : ByteArray} {c : Nat → VT} {p : Nat} {ov : Value} {xs : List Value} {g2 g3 g cap : Nat} {W W' : World} {v0 v1 v2 v3 v4 : Value} (h : CpR w bx zz k i x c p ov xs g2 g3 W)
    (h2 : w.heap.size + 1 = g2) (h3 : w.heap.size + 1 + 1 = g3)
    (hv : VAL W (fun b => w.heap.size + 3 ≤ b ∧ b < W.heap.size ∧ ov.ownBlock ≠ some b) (c p) (.agg #[v0, v1, v2, v3, v4])) (hown : W'.ownsRow (w.heap.size + 3) 25 5 (.slice (some ⟨g, 0, none⟩) (p + 1) cap) (p + 1) (xs ++ [v0, v1, v2, v3, v4]))
    (hg : W.grownBy W' ov.ownBlock) (hat : ov.ownBlock = some g ∨ g = W.heap.size) (hlt : g < W'.heap.size) :
    CpR w bx zz k i x c (p + 1) (.slice (some ⟨g, 0, none⟩) (p + 1) cap) (xs ++ [v0, v1, v2, v3, v4]) g2 g3 (W'.setCell ⟨g3, 3, none⟩ (.slice (some ⟨g, 0, none⟩) (p + 1) cap)) := by
  have hs : ∀ b, b < w.heap.size + 3 → W'.heap[b]? = W.heap[b]? := fun b hb => hg.block b (by have := h.size; omega) (own_ne h.own hb)
  have hgge : w.heap.size + 3 ≤ g := (hown.lt g rfl).1
  have hsz : ∀ u, (W'.setCell ⟨g3, 3, none⟩ u).heap.size = W'.heap.size := fun u => by simp [World.setCell]
  have hfar : ∀ u b, b ≠ g3 → (W'.setCell ⟨g3, 3, none⟩ u).heap[b]? = W'.heap[b]? := fun u b hb => Below.heap_setCell _ _ _ _ hb
  refine ⟨?_, ?_, ?_, ?_, own_far hown _ (by show g3 < _; omega), ?_, ?_⟩
  · rw [hfar _ _ (by omega), hs _ (by omega)]; exact h.box
  · rw [hfar _ _ (by omega), hs _ (by omega)]; exact h.res
  · exact (BX.same h.out (hs g3 (by omega))).set3 _
  · exact (h.below.grown hg h.below.size (fun k hk => by have := (h.own.lt k hk).1; omega)).setCell (by show w.heap.size ≤ g3; omega) _
  · refine ((h.row.snoc hv).same (Same.trans (grown_same hg (fun b hb => ⟨hb.2.1, fun e => hb.2.2 e.symm⟩)) (set_same _ (fun b hb => by show b ≠ g3; omega))) (fun b hb => ⟨hb.1, ?_, ?_⟩))
    · rw [hsz]; exact Nat.lt_of_lt_of_le hb.2.1 hg.size
    · intro e
      have e' : g = b := by simpa [Value.ownBlock] using e
      rcases hat with h4 | h4
      · exact hb.2.2 (by rw [h4, e'])
      · have := hb.2.1; omega
  · rw [hsz]; exact Nat.le_trans h.size hg.size
/-- a copy, whose rows are its own -/
structure OwnV (B : Nat) (w : World) (t : VT) (v : Value) : Prop where
  own : ∃ k i x n c m A cap A' cap' xs, t = .mk k i x n c m ∧ v = .agg #[.int .i64 k, .bool i, .string x, .slice A n cap, .slice A' m.length cap'] ∧ (-9223372036854775808 ≤ k ∧ k ≤ 9223372036854775807) ∧
    w.ownsRow B 25 5 (.slice A n cap) n xs ∧ w.ownsRow B 9 1 (.slice A' m.length cap') m.length (m.map .string) ∧
    VR w (fun b => B ≤ b ∧ b < w.heap.size ∧ (Value.slice A n cap).ownBlock ≠ some b ∧ (Value.slice A' m.length cap').ownBlock ≠ some b) xs n c ∧ (∀ b, (Value.slice A n cap).ownBlock = some b → (Value.slice A' m.length cap').ownBlock ≠ some b)
def CopiedO (t : VT) (w : World) (e : Ending) (w' : World) : Prop := ∃ v', e = .returned v' ∧ VAL w' (New w w') t v' ∧ Below w.heap.size w w' ∧ OwnV w.heap.size w' t v'
theorem CopiedO.any {t : VT} {w w' : World} {e : Ending} (h : CopiedO t w e w') : Copied t w e w' := by
  obtain ⟨v', h1, h2, h3, -⟩ := h
  exact ⟨v', h1, h2, h3⟩
end Go.Proofs.YtfploakafbnigaaGreatDoor
namespace Go.Proofs.YtfploakafbnigaaGreatDoor
open Go.RowKit Val
set_option linter.unusedVariables false
set_option linter.unusedSimpArgs false
end Go.Proofs.YtfploakafbnigaaGreatDoor
namespace Go.Proofs.YtfploakafbnigaaGreatDoor
open Go.RowKit Val
set_option linter.unusedVariables false
set_option linter.unusedSimpArgs false
/-- a member, or none: the value lies in new memory -/
def Got (t : VT) (nm : ByteArray) (w : World) (e : Ending) (w' : World) : Prop := ∃ v', e = .returned (.tuple #[v', .bool (t.get nm).isSome]) ∧ VAL w' (New w w') (t.getD nm) v' ∧ Below w.heap.size w w'
end Go.Proofs.YtfploakafbnigaaGreatDoor
namespace Go.Proofs.YtfploakafbnigaaGreatDoor
open Go.RowKit Val
set_option linter.unusedVariables false
set_option linter.unusedSimpArgs false
/-- the cells behind a row of values -/
theorem VS.cells {w : World} {S : Nat → Prop} {b off n : Nat} {c : Nat → VT} (h : VS w S (some ⟨b, off, none⟩) n c) (hn : 0 < n) (p : Nat) (hp : p ≤ n) : ∃ xs, VR w S xs p c ∧ ∀ j u, xs[j]? = some u → w.cell? ⟨b, off + j, none⟩ = some u ∧ u.oneCell' = true := by
  rcases h with h | ⟨b', off', e, -, hc⟩
  · omega
  injection e with e
  injection e with e1 e2
  subst e1 e2
  induction p with
  | zero => exact ⟨[], VR.nil _ _ _, fun j u hu => by simp at hu⟩
  | succ p ih =>
    obtain ⟨xs, hr, hx⟩ := ih (by omega)
    obtain ⟨v0, v1, v2, v3, v4, ⟨c0, c1, c2, c3, c4⟩, hv⟩ := hc p (by omega)
    refine ⟨_, hr.snoc hv, fun j u hu => ?_⟩
    have hl := hr.1
    have h1 := hv.one
    rcases Nat.lt_or_ge j xs.length with hj | hj
    · rw [List.getElem?_append_left hj] at hu
      exact hx j u hu
    · rw [List.getElem?_append_right hj] at hu
      have hj5 : j - xs.length < 5 := by
        rcases Nat.lt_or_ge (j - xs.length) 5 with h | h
        · exact h
        · rw [List.getElem?_eq_none (by simpa using h)] at hu; cases hu
      have hju : u ∈ [v0, v1, v2, v3, v4] := List.mem_of_getElem? hu
      refine ⟨?_, h1 u hju⟩
      have e : j = p * 5 + (j - xs.length) := by omega
      generalize j - xs.length = q at *
      subst e
      rcases q with _ | _ | _ | _ | _ | q
      · cases hu; exact c0
      · cases hu; exact c1
      · cases hu; exact c2
      · cases hu; exact c3
      · cases hu; exact c4
      · omega
end Go.Proofs.YtfploakafbnigaaGreatDoor
namespace Go.Proofs.YtfploakafbnigaaGreatDoor
open Go.RowKit Val Go.Proofs.YtfploakafbnigaaGreatDoorW.PrintLast
set_option linter.unusedVariables false
set_option linter.unusedSimpArgs false
/-- a block of values, known whole: what its first n read as -/
def RW (w : World) (g n : Nat) (S : Nat → Nat → Prop) (c : Nat → VT) : Prop :=
  ∃ cur, w.heap[g]? = some (.cells cur 25 (0, 0)) ∧ n * 5 ≤ cur.size ∧
    ∀ j, j < n → ∃ v0 v1 v2 v3 v4, cur[j * 5]? = some v0 ∧ cur[j * 5 + 1]? = some v1 ∧ cur[j * 5 + 2]? = some v2 ∧ cur[j * 5 + 3]? = some v3 ∧ cur[j * 5 + 4]? = some v4 ∧ VAL w (S j) (c j) (.agg #[v0, v1, v2, v3, v4])
theorem RW.lt {w : World} {g n : Nat} {S : Nat → Nat → Prop} {c : Nat → VT} (h : RW w g n S c) : g < w.heap.size := by
  obtain ⟨cur, h1, -⟩ := h
  exact (Array.getElem?_eq_some_iff.1 h1).1
theorem RW.same {w w' : World} {g n : Nat} {S S' : Nat → Nat → Prop} {c : Nat → VT} (h : RW w g n S c) (hg : w'.heap[g]? = w.heap[g]?) (hs : ∀ j, j < n → Same (S j) w w') (hS : ∀ j b, S j b → S' j b) : RW w' g n S' c := by
  obtain ⟨cur, h1, h2, h3⟩ := h
  refine ⟨cur, hg.trans h1, h2, fun j hj => ?_⟩
  obtain ⟨v0, v1, v2, v3, v4, e0, e1, e2, e3, e4, hv⟩ := h3 j hj
  exact ⟨v0, v1, v2, v3, v4, e0, e1, e2, e3, e4, (hv.same (hs j hj)).mono (hS j)⟩
theorem RW.VS {w : World} {g n : Nat} {S : Nat → Nat → Prop} {S' : Nat → Prop} {c : Nat → VT} (h : RW w g n S c) (hg : S' g) (hS : ∀ j b, j < n → S j b → S' b) : VS w S' (some ⟨g, 0, none⟩) n c := by
  obtain ⟨cur, h1, h2, h3⟩ := h
  refine .inr ⟨g, 0, rfl, hg, fun j hj => ?_⟩
  obtain ⟨v0, v1, v2, v3, v4, e0, e1, e2, e3, e4, hv⟩ := h3 j hj
  refine ⟨v0, v1, v2, v3, v4, ⟨?_, ?_, ?_, ?_, ?_⟩, hv.mono (fun b hb => hS j b hj hb)⟩
  all_goals
    rw [Nat.zero_add, cell_of_row _ _ _ _ _ _ h1]
    assumption
theorem RW.cells {w : World} {g n : Nat} {S : Nat → Nat → Prop} {c : Nat → VT} (h : RW w g n S c) (p : Nat) (hp : p < n) : ∃ v0 v1 v2 v3 v4, C5 w g (p * 5) v0 v1 v2 v3 v4 ∧ VAL w (S p) (c p) (.agg #[v0, v1, v2, v3, v4]) := by
  obtain ⟨cur, h1, h2, h3⟩ := h
  obtain ⟨v0, v1, v2, v3, v4, e0, e1, e2, e3, e4, hv⟩ := h3 p hp
  exact ⟨v0, v1, v2, v3, v4, ⟨by rw [cell_of_row _ _ _ _ _ _ h1]; exact e0, by rw [cell_of_row _ _ _ _ _ _ h1]; exact e1, by rw [cell_of_row _ _ _ _ _ _ h1]; exact e2, by rw [cell_of_row _ _ _ _ _ _ h1]; exact e3, by rw [cell_of_row _ _ _ _ _ _ h1]; exact e4⟩, hv⟩
theorem RW.fr {w : World} {g n : Nat} {S : Nat → Nat → Prop} {c : Nat → VT} (h : RW w g n S c) (i : Nat) : w.frozen? ⟨g, i, none⟩ = false := by
  obtain ⟨cur, h1, -⟩ := h
  simp [World.frozen?, h1]
/-- five cells from o on are written -/
def put5 (w : World) (g o : Nat) (u0 u1 u2 u3 u4 : Value) : World := ((((w.setCell ⟨g, o, none⟩ u0).setCell ⟨g, o + 1, none⟩ u1).setCell ⟨g, o + 2, none⟩ u2).setCell ⟨g, o + 3, none⟩ u3).setCell ⟨g, o + 4, none⟩ u4
theorem put5_same {S : Nat → Prop} (w : World) (g o : Nat) (u0 u1 u2 u3 u4 : Value) (hS : ∀ b, S b → b ≠ g) : Same S w (put5 w g o u0 u1 u2 u3 u4) :=
  ((((set_same (p := ⟨g, o, none⟩) u0 hS).trans (set_same (p := ⟨g, o + 1, none⟩) u1 hS)).trans (set_same (p := ⟨g, o + 2, none⟩) u2 hS)).trans (set_same (p := ⟨g, o + 3, none⟩) u3 hS)).trans (set_same (p := ⟨g, o + 4, none⟩) u4 hS)
theorem put5_below {B : Nat} {w0 w : World} (h : Below B w0 w) (g o : Nat) (u0 u1 u2 u3 u4 : Value) (hg : B ≤ g) : Below B w0 (put5 w g o u0 u1 u2 u3 u4) :=
  ((((h.setCell (p := ⟨g, o, none⟩) hg u0).setCell (p := ⟨g, o + 1, none⟩) hg u1).setCell (p := ⟨g, o + 2, none⟩) hg u2).setCell (p := ⟨g, o + 3, none⟩) hg u3).setCell (p := ⟨g, o + 4, none⟩) hg u4
theorem put5_size (w : World) (g o : Nat) (u0 u1 u2 u3 u4 : Value) : (put5 w g o u0 u1 u2 u3 u4).heap.size = w.heap.size := by simp [put5, World.setCell]
theorem put5_block (w : World) (g o : Nat) (u0 u1 u2 u3 u4 : Value) (cur : Array Value) (T : TypeId) (h : w.heap[g]? = some (.cells cur T (0, 0))) :
    (put5 w g o u0 u1 u2 u3 u4).heap[g]? = some (.cells (((((cur.setIfInBounds o u0).setIfInBounds (o + 1) u1).setIfInBounds (o + 2) u2).setIfInBounds (o + 3) u3).setIfInBounds (o + 4) u4) T (0, 0)) := by
  simp [put5, World.setCell, Array.getElem?_modify, h]
theorem RW.put {w : World} {g n p : Nat} {S : Nat → Nat → Prop} {S1 : Nat → Prop} {c : Nat → VT} {u0 u1 u2 u3 u4 : Value} (h : RW w g n S c) (hp : p < n) (hS : ∀ j b, S j b → b ≠ g) (hS1 : ∀ b, S1 b → b ≠ g) (hv : VAL w S1 (c p) (.agg #[u0, u1, u2, u3, u4])) :
    RW (put5 w g (p * 5) u0 u1 u2 u3 u4) g n (fun j b => if j = p then S1 b else S j b) c := by
  obtain ⟨cur, h1, h2, h3⟩ := h
  refine ⟨_, put5_block w g (p * 5) u0 u1 u2 u3 u4 cur _ h1, by simpa using h2, fun j hj => ?_⟩
  by_cases e : j = p
  · subst e
    refine ⟨u0, u1, u2, u3, u4, ?_, ?_, ?_, ?_, ?_, (hv.same (put5_same _ _ _ _ _ _ _ _ hS1)).mono (fun b hb => by simpa using hb)⟩
    all_goals
      simp only [Array.getElem?_setIfInBounds, Array.size_setIfInBounds]
      repeat (first | rw [if_neg (by omega)] | rw [if_pos trivial] | rw [if_pos (by omega)])
  · obtain ⟨v0, v1, v2, v3, v4, e0, e1, e2, e3, e4, hu⟩ := h3 j hj
    refine ⟨v0, v1, v2, v3, v4, ?_, ?_, ?_, ?_, ?_, (hu.same (put5_same _ _ _ _ _ _ _ _ (hS j))).mono (fun b hb => by simpa [e] using hb)⟩
    all_goals
      simp only [Array.getElem?_setIfInBounds, Array.size_setIfInBounds]
      repeat rw [if_neg (by omega)]
      assumption
/-- what the first drawn region reads -/
structure PS (g1 : Nat) (y3 y4 : Value) (w : World) : Prop where
  s3 : w.cell? ⟨g1, 3, none⟩ = some y3
  s4 : w.cell? ⟨g1, 4, none⟩ = some y4
theorem PS.on {g1 : Nat} {y3 y4 : Value} {w w' : World} (h : PS g1 y3 y4 w) (hb : Below w.heap.size w w') : PS g1 y3 y4 w' :=
  ⟨(hb.cell (p := ⟨g1, 3, none⟩) (World.block_lt_of_cell? w _ h.s3)).trans h.s3, (hb.cell (p := ⟨g1, 4, none⟩) (World.block_lt_of_cell? w _ h.s4)).trans h.s4⟩
/-- the loop's memory -/
structure PR (w W : World) (g2 z2 z3 : Nat) (k : Int) (i : Bool) (x : ByteArray) (LA NA : Option Addr) (n : Nat) (m : List ByteArray) (lcap ncap : Nat) (S : Nat → Prop) (c : Nat → VT) (p : Nat) : Prop where
  box : BX W w.heap.size (.int .i64 k) (.bool i) (.string x) (.slice LA n lcap) (.slice NA m.length ncap)
  res : BX W g2 (.int .i64 0) (.bool false) (.string ⟨#[]⟩) (.slice none 0 0) (.slice none 0 0)
  below : Below w.heap.size w W
  names : TS W (fun b => z2 ≤ b ∧ b < z3) NA m
  size : z3 ≤ W.heap.size
  row : n = 0 ∨ ∃ gl, LA = some ⟨gl, 0, none⟩ ∧ z3 ≤ gl ∧ RW W gl n (fun j b => if j < p then (z3 ≤ b ∧ b < W.heap.size ∧ b ≠ gl) else S b) c
theorem PR.on {w W W' : World} {g2 z2 z3 : Nat} {k : Int} {i : Bool} {x : ByteArray} {LA NA : Option Addr} {n : Nat} {m : List ByteArray} {lcap ncap : Nat} {S : Nat → Prop} {c : Nat → VT} {p : Nat}
    (h : PR w W g2 z2 z3 k i x LA NA n m lcap ncap S c p) (hS : ∀ b, S b → b < W.heap.size) (hb : Below W.heap.size W W') : PR w W' g2 z2 z3 k i x LA NA n m lcap ncap S c p where
  box := h.box.on hb
  res := h.res.on hb
  below := h.below.trans (hb.mono h.below.size)
  names := h.names.same (below_same hb (fun b hb => Nat.lt_of_lt_of_le hb.2 h.size))
  size := Nat.le_trans h.size hb.size
  row := h.row.imp id (fun ⟨gl, e, h1, h2⟩ => ⟨gl, e, h1, h2.same (hb.block _ h2.lt) (fun j _ => below_same hb (fun b hb => by
      by_cases hj : j < p
      · rw [if_pos hj] at hb; exact hb.2.1
      · rw [if_neg hj] at hb; exact hS b hb))
    (fun j b hb' => by
      by_cases hj : j < p
      · rw [if_pos hj] at hb' ⊢; exact ⟨hb'.1, Nat.lt_of_lt_of_le hb'.2.1 hb.size, hb'.2.2⟩
      · rw [if_neg hj] at hb' ⊢; exact hb')⟩)
/-- what the loop's drawn region reads -/
structure PT (g1 gx : Nat) (y3 e0 e1 e2 e3 e4 : Value) (w : World) : Prop where
  s3 : w.cell? ⟨g1, 3, none⟩ = some y3
  s4 : w.cell? ⟨gx, 0, none⟩ = some e0
  s5 : w.cell? ⟨gx, 1, none⟩ = some e1
  s6 : w.cell? ⟨gx, 2, none⟩ = some e2
  s7 : w.cell? ⟨gx, 3, none⟩ = some e3
  s8 : w.cell? ⟨gx, 4, none⟩ = some e4
theorem PT.on {g1 gx : Nat} {y3 e0 e1 e2 e3 e4 : Value} {w w' : World} (h : PT g1 gx y3 e0 e1 e2 e3 e4 w) (hb : Below w.heap.size w w') : PT g1 gx y3 e0 e1 e2 e3 e4 w' := by
  have k1 : ∀ o, w'.cell? ⟨g1, o, none⟩ = w.cell? ⟨g1, o, none⟩ := fun o => World.cell?_of_block (w := w) (hb.block g1 (World.block_lt_of_cell? w ⟨g1, 3, none⟩ h.s3))
  have kx : ∀ o, w'.cell? ⟨gx, o, none⟩ = w.cell? ⟨gx, o, none⟩ := fun o => World.cell?_of_block (w := w) (hb.block gx (World.block_lt_of_cell? w ⟨gx, 0, none⟩ h.s4))
  exact ⟨(k1 _).trans h.s3, (kx _).trans h.s4, (kx _).trans h.s5, (kx _).trans h.s6, (kx _).trans h.s7, (kx _).trans h.s8⟩
theorem PR.put {w W : World} {g2 z2 z3 gl : Nat} {k : Int} {i : Bool} {x : ByteArray} {NA : Option Addr} {n : Nat} {m : List ByteArray} {lcap ncap : Nat} {S S1 : Nat → Prop} {c : Nat → VT} {p : Nat} {u0 u1 u2 u3 u4 : Value}
    (h : PR w W g2 z2 z3 k i x (some ⟨gl, 0, none⟩) NA n m lcap ncap S c p) (hp : p < n) (hv : VAL W S1 (c p) (.agg #[u0, u1, u2, u3, u4])) (hS1 : ∀ b, S1 b → z3 ≤ b ∧ b < W.heap.size ∧ b ≠ gl) (hg2 : w.heap.size + 1 = g2) (hz3 : w.heap.size + 2 ≤ z3) (hS : ∀ b, S b → b < w.heap.size) :
    PR w (put5 W gl (p * 5) u0 u1 u2 u3 u4) g2 z2 z3 k i x (some ⟨gl, 0, none⟩) NA n m lcap ncap S c (p + 1) := by
  rcases h.row with h0 | ⟨gl', e, hgl, hrw⟩
  · omega
  injection e with e
  injection e with e
  subst e
  refine ⟨BX.same h.box (put5_same (S := (· = w.heap.size)) W gl _ _ _ _ _ _ (fun b hb => by subst hb; omega) _ rfl), BX.same h.res (put5_same (S := (· = g2)) W gl _ _ _ _ _ _ (fun b hb => by subst hb; omega) _ rfl),
    put5_below h.below gl _ _ _ _ _ _ (by omega), h.names.same (put5_same W gl _ _ _ _ _ _ (fun b hb => by have := hb.2; omega)), by rw [put5_size]; exact h.size, .inr ⟨gl, rfl, hgl, ?_⟩⟩
  refine (hrw.put hp (fun j b hb => ?_) (fun b hb => (hS1 b hb).2.2) hv).same rfl (fun _ _ _ _ => rfl) (fun j b hb => ?_)
  · by_cases hj : j < p
    · rw [if_pos hj] at hb; exact hb.2.2
    · rw [if_neg hj] at hb; have := hS b hb; omega
  · rw [put5_size]
    by_cases e : j = p
    · subst e
      rw [if_pos rfl] at hb
      rw [if_pos (by omega)]
      exact hS1 b hb
    · rw [if_neg e] at hb
      by_cases hj : j < p
      · rw [if_pos hj] at hb; rw [if_pos (by omega)]; exact hb
      · rw [if_neg hj] at hb; rw [if_neg (by omega)]; exact hb
/-- its list may be written -/
def NF (w : World) (v : Value) : Prop := ∀ v0 v1 v2 A n c v4, v = .agg #[v0, v1, v2, .slice A n c, v4] → n = 0 ∨ ∃ b off, A = some ⟨b, off, none⟩ ∧ ∀ o, w.frozen? ⟨b, o, none⟩ = false
theorem NF.same {w w' : World} {S : Nat → Prop} {t : VT} {v : Value} (h : NF w v) (hv : VAL w S t v) (hs : Same S w w') : NF w' v := by
  intro v0 v1 v2 A n c v4 e
  rcases h v0 v1 v2 A n c v4 e with h0 | ⟨b, off, rfl, hf⟩
  · exact .inl h0
  · by_cases hn : n = 0
    · exact .inl hn
    · obtain ⟨k, i, x, n', ch, m, rfl⟩ := hv.root
      obtain ⟨A', cap, A1, cap1, e2, -, -, hV⟩ := hv.open
      rw [e] at e2
      injection e2 with e2
      injection e2 with e2
      injection e2 with z0 e2; injection e2 with z1 e2; injection e2 with z2 e2; injection e2 with z3 e2
      injection z3 with z4 z5 z6
      subst z4 z5
      rcases hV with h0 | ⟨b', off', e3, hSb, -⟩
      · exact absurd h0 hn
      · injection e3 with e3
        injection e3 with e3 e4
        subst e3
        exact .inr ⟨b, off, rfl, fun o => (World.frozen?_of_block (w := w) (hs b hSb)).trans (hf o)⟩
/-- a copy, whose list may be written -/
def CopiedF (t : VT) (w : World) (e : Ending) (w' : World) : Prop := ∃ v', e = .returned v' ∧ VAL w' (New w w') t v' ∧ Below w.heap.size w w' ∧ NF w' v'
theorem CopiedF.any {t : VT} {w w' : World} {e : Ending} (h : CopiedF t w e w') : Copied t w e w' := by
  obtain ⟨v', h1, h2, h3, -⟩ := h
  exact ⟨v', h1, h2, h3⟩
end Go.Proofs.YtfploakafbnigaaGreatDoor
namespace Go.Proofs.YtfploakafbnigaaGreatDoor
open Go.RowKit Val
set_option linter.unusedVariables false
set_option linter.unusedSimpArgs false
/-- the same, and its list may be written -/
def GotF (t : VT) (nm : ByteArray) (w : World) (e : Ending) (w' : World) : Prop := ∃ v', e = .returned (.tuple #[v', .bool (t.get nm).isSome]) ∧ VAL w' (New w w') (t.getD nm) v' ∧ Below w.heap.size w w' ∧ NF w' v'
theorem GotF.any {t : VT} {nm : ByteArray} {w w' : World} {e : Ending} (h : GotF t nm w e w') : Got t nm w e w' := by
  obtain ⟨v', h1, h2, h3, -⟩ := h
  exact ⟨v', h1, h2, h3⟩
end Go.Proofs.YtfploakafbnigaaGreatDoor
