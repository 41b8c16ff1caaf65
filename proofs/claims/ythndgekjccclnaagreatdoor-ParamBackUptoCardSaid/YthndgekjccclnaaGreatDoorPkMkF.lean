/-
  Joined texts: MkLoop.
-/
import Derived.Test.YthndgekjccclnaaGreatDoorPkMkD
namespace Go.Proofs.YthndgekjccclnaaGreatDoorW.PrintLast
open Go.RowKit
set_option linter.unusedVariables false
set_option linter.unusedSimpArgs false
section
variable {P : Program} {ops : Array Oper} {Q : Exit → Act → World → Prop}
/-- A call through a function value that captures nothing. -/
theorem goesV_ {oi : Oper} {N : Option Tmp} {a : Act} {w : World} {K : Act → World → Prop} {f : FuncId} {fn : Func} {x : Operand} {ags : Array Operand} {ts : Array TypeId} (hf : P.funcs[f]? = some fn) (hname : (fn.name == "runtime.NumGoroutine") = false) (hb : fn.body.isSome = true) (args : Array Value)
    (hw : Region.wanted oi (yielded ops a.tmps) = true) (hN : oi.dst = N) (hop : oi.op = .call { callee := .value x, args := ags, argTypes := ts }) (hx : a.eval x = .func (.func f) #[] #[]) (hargs : ags.map a.eval = args)
    (h : Calls P f args w fun e w' => ∃ v, e = .returned v ∧ K (a.put N v) w') : if Region.wanted oi (yielded ops a.tmps) = true then Oper.wp P oi a w K Q else K (a.put N undef) w := by
  refine call_ f args hw hN ?_ h
  have he := enters_ hf hname hb args w
  unfold execOp
  simp [hop, resolve, Deferred.ofValue, invoke, hx, hargs, he]
theorem put_ne {a : Act} {s t : Nat} {v : Value} (h : t ≠ s) : (a.put (some t) v).tmps[s]? = a.tmps[s]? := by simp [Act.put, Array.getElem?_setIfInBounds, h]
theorem put_at {a : Act} {t : Nat} {v : Value} (h : t < a.tmps.size) : (a.put (some t) v).tmps[t]? = some v := by simp [Act.put, h]
theorem put_size {a : Act} {t : Nat} {v : Value} : (a.put (some t) v).tmps.size = a.tmps.size := by simp [Act.put]
/-- behind the append, behind the address -/
def App1 (a0 : Act) (L : Tolds) (t : Tmp) (G : Value → World → Prop) (a : Act) (w : World) : Prop := ∃ V v, a = (putSel a0 (fun _ => true) (L.put V)).put (some t) v ∧ G v w
def App2 (a0 : Act) (L : Tolds) (t t2 : Tmp) (x : Value) (G : Value → World → Prop) (a : Act) (w : World) : Prop := ∃ V v, a = ((putSel a0 (fun _ => true) (L.put V)).put (some t) v).put (some t2) x ∧ G v w
abbrev ToldA (Q : Exit → Act → World → Prop) (G : Value → World → Prop) (L : Tolds) (s : Nat) (t : Tmp) (s1 : Nat) (t1 : Tmp) (x : Value) (s2 : Nat) (w0 : World) (a0 : Act) : (Nat → Bool) → Act → World → Prop := ToldG (After Q (App1 a0 L t G) (App2 a0 L t t1 x G) s1 s2) L s w0 a0
end
end Go.Proofs.YthndgekjccclnaaGreatDoorW.PrintLast
namespace Go.Proofs.YthndgekjccclnaaGreatDoor
open Go.RowKit Val Num Go.Proofs.YthndgekjccclnaaGreatDoorW.PrintLast
set_option linter.unusedVariables false
set_option linter.unusedSimpArgs false
/-- a row of elements, k cells each -/
def ER {α : Type} (k : Nat) (enc : α → List Value) (w : World) (S : Nat → Prop) (A : Option Addr) (l : List α) : Prop :=
  l = [] ∨ ∃ b off, A = some ⟨b, off, none⟩ ∧ S b ∧ ∀ j (h : j < l.length) i v, (enc l[j])[i]? = some v → w.cell? ⟨b, off + j * k + i, none⟩ = some v
theorem ER.on {α : Type} {k : Nat} {enc : α → List Value} {w w' : World} {S : Nat → Prop} {A : Option Addr} {l : List α} (h : ER k enc w S A l) (hS : ∀ b, S b → b < w.heap.size) (hb : Below w.heap.size w w') : ER k enc w' S A l := by
  rcases h with h | ⟨b, off, e, h1, hc⟩
  · exact .inl h
  · exact .inr ⟨b, off, e, h1, fun j hj i v hv => (hb.cell (p := ⟨b, off + j * k + i, none⟩) (hS b h1)).trans (hc j hj i v hv)⟩
/-- the loop's memory: the result's place, the list's box, its row -/
structure AL (w : World) (base g2 g3 : Nat) (c : Nat → VT) (p : Nat) (ov : Value) (xs : List Value) (W : World) : Prop where
  res : BX W g2 (.int .i64 0) (.bool false) (.string ⟨#[]⟩) (.slice none 0 0) (.slice none 0 0)
  out : BX W g3 (.int .i64 4) (.bool false) (.string ⟨#[]⟩) ov (.slice none 0 0)
  below : Below w.heap.size w W
  own : W.ownsRow base 30 5 ov p xs
  row : VR W (fun b => base ≤ b ∧ b < W.heap.size ∧ ov.ownBlock ≠ some b) xs p c
  size : base ≤ W.heap.size
theorem AL.on {w : World} {base g2 g3 : Nat} {c : Nat → VT} {p : Nat} {ov : Value} {xs : List Value} {W W' : World} (h : AL w base g2 g3 c p ov xs W) (hb : Below W.heap.size W W') : AL w base g2 g3 c p ov xs W' where
  res := h.res.on hb
  out := h.out.on hb
  below := h.below.trans (hb.mono h.below.size)
  own := own_on h.own hb
  row := h.row.same (below_same hb (fun b hb => hb.2.1)) (fun b hb' => ⟨hb'.1, Nat.lt_of_lt_of_le hb'.2.1 hb.size, hb'.2.2⟩)
  size := Nat.le_trans h.size hb.size
/-- where the list's box and the result's place lie -/
structure ALat (w : World) (base g2 g3 : Nat) : Prop where
  a : w.heap.size ≤ g2
  b : w.heap.size ≤ g3
  c : g2 < base
  d : g3 < base
  ne : g2 ≠ g3
theorem AL.grown {w : World} {base g2 g3 : Nat} {c : Nat → VT} {p : Nat} {ov : Value} {xs : List Value} {g cap : Nat} {W W' : World} {v0 v1 v2 v3 v4 : Value} (h : AL w base g2 g3 c p ov xs W) (ha : ALat w base g2 g3)
    (hv : VAL W (fun b => base ≤ b ∧ b < W.heap.size ∧ ov.ownBlock ≠ some b) (c p) (.agg #[v0, v1, v2, v3, v4])) (hown : W'.ownsRow base 30 5 (.slice (some ⟨g, 0, none⟩) (p + 1) cap) (p + 1) (xs ++ [v0, v1, v2, v3, v4]))
    (hg : W.grownBy W' ov.ownBlock) (hat : ov.ownBlock = some g ∨ g = W.heap.size) :
    AL w base g2 g3 c (p + 1) (.slice (some ⟨g, 0, none⟩) (p + 1) cap) (xs ++ [v0, v1, v2, v3, v4]) (W'.setCell ⟨g3, 3, none⟩ (.slice (some ⟨g, 0, none⟩) (p + 1) cap)) := by
  obtain ⟨a1, a2, a3, a4, a5⟩ := ha
  have hs : ∀ b, b < base → W'.heap[b]? = W.heap[b]? := fun b hb => hg.block b (by have := h.size; omega) (own_ne h.own hb)
  have hgge : base ≤ g := (hown.lt g rfl).1
  have hsz : ∀ u, (W'.setCell ⟨g3, 3, none⟩ u).heap.size = W'.heap.size := fun u => by simp [World.setCell]
  refine ⟨?_, ?_, ?_, own_far hown _ (by show g3 < _; omega), ?_, ?_⟩
  · exact (h.res.same (hs _ a3)).far (p := ⟨g3, 3, none⟩) _ a5
  · exact (BX.same h.out (hs g3 (by omega))).set3 _
  · exact (h.below.grown hg h.below.size (fun k hk => by have := (h.own.lt k hk).1; omega)).setCell (by show w.heap.size ≤ g3; omega) _
  · refine ((h.row.snoc hv).same (Same.trans (grown_same hg (fun b hb => ⟨hb.2.1, fun e => hb.2.2 e.symm⟩)) (set_same _ (fun b hb => by show b ≠ g3; have := hb.1; omega))) (fun b hb => ⟨hb.1, ?_, ?_⟩))
    · rw [hsz]; exact Nat.lt_of_lt_of_le hb.2.1 hg.size
    · intro e
      have e' : g = b := by simpa [Value.ownBlock] using e
      rcases hat with h4 | h4
      · exact hb.2.2 (by rw [h4, e'])
      · have := hb.2.1; omega
  · rw [hsz]; exact Nat.le_trans h.size hg.size
/-- the list, as a value, where it is loaded -/
theorem AL.val {w : World} {base g2 g3 : Nat} {c : Nat → VT} {p : Nat} {ov : Value} {xs : List Value} {W : World} (h : AL w base g2 g3 c p ov xs W) : ∃ A cap, ov = .slice A p cap ∧ VAL W (fun b => base ≤ b ∧ b < W.heap.size) (.mk 4 false .empty p c []) (.agg #[.int .i64 4, .bool false, .string ⟨#[]⟩, .slice A p cap, .slice none 0 0]) := by
  obtain ⟨A, cap, e, hv⟩ := VS_of_own (S' := fun b => base ≤ b ∧ b < W.heap.size) h.own h.row (fun b hb => ⟨hb.1, hb.2.1⟩) (fun b hb => h.own.lt b hb)
  exact ⟨A, cap, e, VAL.shut (cap' := 0) (A' := none) (m := []) (by decide) (.inl rfl) hv⟩
/-- what the drawn region of such a loop reads -/
structure ALS (g3 g5 : Nat) (ov : Value) (T : TypeId) (cs : Array Value) (w : World) : Prop where
  box : BX w g3 (.int .i64 4) (.bool false) (.string ⟨#[]⟩) ov (.slice none 0 0)
  x : BK w g5 T cs
theorem ALS.same {g3 g5 : Nat} {ov : Value} {T : TypeId} {cs : Array Value} {w w' : World} (h : ALS g3 g5 ov T cs w) (h3 : w'.heap[g3]? = w.heap[g3]?) (h5 : w'.heap[g5]? = w.heap[g5]?) : ALS g3 g5 ov T cs w' := ⟨h.box.same h3, h5.trans h.x⟩
theorem ALS.on {g3 g5 : Nat} {ov : Value} {T : TypeId} {cs : Array Value} {w w' : World} (h : ALS g3 g5 ov T cs w) (hb : Below w.heap.size w w') : ALS g3 g5 ov T cs w' := h.same (hb.block _ h.box.lt) (hb.block _ h.x.lt)
/-- a literal's block is a row of one's own -/
theorem own_lit {W : World} {base q n k : Nat} {T : TypeId} {cs : Array Value} (h : BK W q T cs) (hs : cs.size = n * k) (hb : base ≤ q) (hn : n ≤ maxLen) : W.ownsRow base T k (.slice (some ⟨q, 0, none⟩) n n) n cs.toList :=
  ⟨by simpa using hs, .inr ⟨q, n, cs, rfl, hb, h, Nat.le_refl _, hn, hs, by rw [List.take_of_length_le (by simp [hs])]⟩⟩
theorem PSV_of_own {z : Zone} {W : World} {base n : Nat} {e : TypeId} {ov : Value} {xs : List Value} {l : List (ByteArray × VT)} (h : W.ownsRow base e 6 ov n xs) (hr : PRC W (z.S W) xs l) (hn : l.length = n) (hb : ∀ b, ov.ownBlock = some b → z.S W b) : PSV z l W ov := by
  subst hn
  rcases h.2 with ⟨rfl, h0⟩ | ⟨g, cap, cur, rfl, hbg, hh, -⟩
  · have : l = [] := List.eq_nil_of_length_eq_zero h0
    subst this
    exact ⟨none, 0, rfl, .inl rfl⟩
  · refine ⟨_, _, rfl, .inr ⟨g, 0, rfl, hb g rfl, fun j hj => ?_⟩⟩
    obtain ⟨v0, v1, v2, v3, v4, e0, e1, e2, e3, e4, e5, hv⟩ := hr.2 j hj
    refine ⟨v0, v1, v2, v3, v4, ?_, ?_, ?_, ?_, ?_, ?_, hv⟩
    all_goals
      rw [Nat.zero_add]
      exact own_cell h _ _ (by assumption)
/-- one value's slice: where its cells lie -/
theorem VSV.single {z : Zone} {t : VT} {w : World} {v : Value} (h : VSV z [t] w v) : ∃ b off cap v0 v1 v2 v3 v4, v = .slice (some ⟨b, off, none⟩) 1 cap ∧ z.S w b ∧ C5 w b off v0 v1 v2 v3 v4 ∧ VLV z t w (.agg #[v0, v1, v2, v3, v4]) := by
  obtain ⟨A, cap, rfl, hv⟩ := h
  rcases hv with h0 | ⟨b, off, rfl, hb, hc⟩
  · cases h0
  · obtain ⟨v0, v1, v2, v3, v4, c5, hr⟩ := hc 0 (by simp)
    rw [Nat.zero_mul, Nat.add_zero] at c5
    exact ⟨b, off, cap, v0, v1, v2, v3, v4, rfl, hb, c5, hr⟩
theorem C5.news {w : World} {b off : Nat} {v0 v1 v2 v3 v4 : Value} (h : C5 w b off v0 v1 v2 v3 v4) : ∀ j u, [v0, v1, v2, v3, v4][j]? = some u → w.cell? ((⟨b, off, none⟩ : Addr).add j) = some u := fun j u hu => by
  have hadd : (⟨b, off, none⟩ : Addr).add j = ⟨b, off + j, none⟩ := by unfold Addr.add; split <;> simp_all
  rw [hadd]
  match j, hu with
  | 0, hu => injection hu with hu; subst hu; exact h.1
  | 1, hu => injection hu with hu; subst hu; exact h.2.1
  | 2, hu => injection hu with hu; subst hu; exact h.2.2.1
  | 3, hu => injection hu with hu; subst hu; exact h.2.2.2.1
  | 4, hu => injection hu with hu; subst hu; exact h.2.2.2.2
  | j + 5, hu => simp at hu
/-- the same row, kept from world to world -/
structure EA {α : Type} (k : Nat) (enc : α → List Value) (B : Nat) (A : Option Addr) (l : List α) (w : World) : Prop where
  le : B ≤ w.heap.size
  row : ER k enc w (fun b => b < B) A l
theorem EA.on {α : Type} {k : Nat} {enc : α → List Value} {B : Nat} {A : Option Addr} {l : List α} {w w' : World} (h : EA k enc B A l w) (hb : Below w.heap.size w w') : EA k enc B A l w' :=
  ⟨Nat.le_trans h.le hb.size, h.row.on (fun b hb => Nat.lt_of_lt_of_le hb h.le) hb⟩
theorem EA.er {α : Type} {k : Nat} {enc : α → List Value} {B : Nat} {A : Option Addr} {l : List α} {w : World} (h : EA k enc B A l w) : ER k enc w (fun b => b < w.heap.size) A l := by
  rcases h.row with h1 | ⟨b, off, e, h1, hc⟩
  · exact .inl h1
  · exact .inr ⟨b, off, e, Nat.lt_of_lt_of_le h1 h.le, hc⟩
theorem ER.ea {α : Type} {k : Nat} {enc : α → List Value} {A : Option Addr} {l : List α} {w : World} (h : ER k enc w (fun b => b < w.heap.size) A l) : EA k enc w.heap.size A l w := ⟨Nat.le_refl _, h⟩
/-- what the append has made, ahead of its store -/
def AppG (w : World) (base g2 g3 : Nat) (c : Nat → VT) (p : Nat) (ov : Value) (v : Value) (W : World) : Prop :=
  ∃ g ncap xs, v = .slice (some ⟨g, 0, none⟩) (p + 1) ncap ∧ AL w base g2 g3 c (p + 1) v xs (W.setCell ⟨g3, 3, none⟩ v) ∧ BX W g3 (.int .i64 4) (.bool false) (.string ⟨#[]⟩) ov (.slice none 0 0)
/-- some cells in a row -/
structure RowAt (b o : Nat) (cs : List Value) (w : World) : Prop where
  lt : b < w.heap.size
  c : ∀ (i : Nat) (v : Value), cs[i]? = some v → w.cell? ⟨b, o + i, none⟩ = some v
theorem RowAt.on {b o : Nat} {cs : List Value} {w w' : World} (h : RowAt b o cs w) (hb : Below w.heap.size w w') : RowAt b o cs w' :=
  ⟨Nat.lt_of_lt_of_le h.lt hb.size, fun i v hv => (hb.cell (p := ⟨b, o + i, none⟩) h.lt).trans (h.c i v hv)⟩
theorem RowAt.c0 {b o : Nat} {cs : List Value} {w : World} (h : RowAt b o cs w) (v : Value) (hv : cs[0]? = some v) : w.cell? ⟨b, o, none⟩ = some v := h.c 0 v hv
end Go.Proofs.YthndgekjccclnaaGreatDoor
