/-
  Joined texts: ParMade ParMPlace ParTold ParAwake.
-/
import Derived.Test.YtfploakafbnigaaGreatDoorCPkParB
import Derived.Test.YtfploakafbnigaaGreatDoorCPkParA
import Derived.Test.YtfploakafbnigaaGreatDoorCRegKit
import Derived.Below
import Derived.Deep.DeepCutAuto
import Derived.Deep.CutBlock
namespace Go.Proofs.YtfploakafbnigaaGreatDoor
open Go.RowKit Val
set_option linter.unusedVariables false
set_option linter.unusedSimpArgs false
/-- this value is handed back, and nothing that was is touched -/
def Made (v : Value) (w : World) (e : Ending) (w' : World) : Prop := e = .returned v ∧ Below w.heap.size w w'
theorem made_end {w : World} (o : Obj) : Below w.heap.size w (w.alloc o) := (Below.refl _ _).alloc (Nat.le_refl _) _
/-- a set of blocks that grows with the world -/
structure Zone where
  S : World → Nat → Prop
  lt : ∀ w b, S w b → b < w.heap.size
  up : ∀ w w' b, S w b → Below w.heap.size w w' → S w' b
/-- what was made since there were B blocks -/
def zNew (B : Nat) : Zone where
  S := fun w b => B ≤ b ∧ b < w.heap.size
  lt := fun _ _ h => h.2
  up := fun _ _ _ h hb => ⟨h.1, Nat.lt_of_lt_of_le h.2 hb.size⟩
/-- a value's box, empty -/
def zBox : Obj := .cells #[.int .i64 0, .bool false, .string ⟨#[]⟩, .slice none 0 0, .slice none 0 0] 25
/-- the same, but for empty boxes behind the first C blocks -/
def zAlt (B C : Nat) : Zone where
  S := fun w b => (B ≤ b ∧ b < w.heap.size) ∧ (C ≤ b → w.heap[b]? ≠ some zBox)
  lt := fun _ _ h => h.1.2
  up := fun _ _ _ h hb => ⟨⟨h.1.1, Nat.lt_of_lt_of_le h.1.2 hb.size⟩, fun hc => by rw [hb.block _ h.1.2]; exact h.2 hc⟩
/-- a slice of texts, of values, and a value, in a zone -/
def TSV (z : Zone) (m : List ByteArray) (w : World) (v : Value) : Prop := ∃ A cap, v = .slice A m.length cap ∧ TS w (z.S w) A m
def VSV (z : Zone) (l : List VT) (w : World) (v : Value) : Prop := ∃ A cap, v = .slice A l.length cap ∧ VS w (z.S w) A l.length (fun j => l.getD j .leaf)
def VLV (z : Zone) (t : VT) (w : World) (v : Value) : Prop := VAL w (z.S w) t v
theorem TSV.up {z : Zone} {m : List ByteArray} {w w' : World} {v : Value} (h : TSV z m w v) (hb : Below w.heap.size w w') : TSV z m w' v := by
  obtain ⟨A, cap, e, h⟩ := h
  exact ⟨A, cap, e, (h.on (z.lt w) hb).mono (fun b h => z.up _ _ b h hb)⟩
theorem VSV.up {z : Zone} {l : List VT} {w w' : World} {v : Value} (h : VSV z l w v) (hb : Below w.heap.size w w') : VSV z l w' v := by
  obtain ⟨A, cap, e, h⟩ := h
  exact ⟨A, cap, e, (h.on (z.lt w) hb).mono (fun b h => z.up _ _ b h hb)⟩
theorem VLV.up {z : Zone} {t : VT} {w w' : World} {v : Value} (h : VLV z t w v) (hb : Below w.heap.size w w') : VLV z t w' v := (VAL.on h (z.lt w) hb).mono (fun b h => z.up _ _ b h hb)
/-- behind a store into an empty box -/
theorem VLV.put {B C : Nat} {t : VT} {w : World} {v : Value} (h : VLV (zAlt B C) t w v) {g : Nat} (hg : C ≤ g) (hx : BX w g (.int .i64 0) (.bool false) (.string ⟨#[]⟩) (.slice none 0 0) (.slice none 0 0)) (u0 u1 u2 u3 u4 : Value) : VLV (zNew B) t (five w g u0 u1 u2 u3 u4) v :=
  (VAL.same (five_same w g u0 u1 u2 u3 u4 (fun b hb e => hb.2 (by rw [e]; exact hg) (by rw [e]; exact hx))) h).mono (fun b hb => ⟨hb.1.1, Nat.lt_of_lt_of_eq hb.1.2 (five_size w g _ _ _ _ _).symm⟩)
/-- a value is made, out of what is new -/
def Mk (z : Zone) (t : VT) (w : World) (e : Ending) (w' : World) : Prop := ∃ v, e = .returned v ∧ VLV z t w' v ∧ Below w.heap.size w w'
def txT (s : ByteArray) : VT := .ofL 3 false s [] []
def nmT (s : ByteArray) : VT := .ofL 2 false s [] []
def lsT (l : List VT) : VT := .ofL 4 false .empty l []
def obT (m : List ByteArray) (l : List VT) : VT := .ofL 5 false .empty l m
theorem VR.cons {w : World} {S : Nat → Prop} {t : VT} {l : List VT} {v0 v1 v2 v3 v4 : Value} {xs : List Value} (hv : VAL w S t (.agg #[v0, v1, v2, v3, v4])) (h : VR w S xs l.length (fun j => l.getD j .leaf)) : VR w S (v0 :: v1 :: v2 :: v3 :: v4 :: xs) (t :: l).length (fun j => (t :: l).getD j .leaf) := by
  refine ⟨by have := h.1; simp [this]; omega, fun j hj => ?_⟩
  cases j with
  | zero => exact ⟨v0, v1, v2, v3, v4, rfl, rfl, rfl, rfl, rfl, hv⟩
  | succ j =>
    obtain ⟨u0, u1, u2, u3, u4, e0, e1, e2, e3, e4, hu⟩ := h.2 j (by simpa using hj)
    refine ⟨u0, u1, u2, u3, u4, ?_, ?_, ?_, ?_, ?_, hu⟩
    · rw [show (j + 1) * 5 = j * 5 + 5 by omega]; exact e0
    · rw [show (j + 1) * 5 + 1 = j * 5 + 1 + 5 by omega]; exact e1
    · rw [show (j + 1) * 5 + 2 = j * 5 + 2 + 5 by omega]; exact e2
    · rw [show (j + 1) * 5 + 3 = j * 5 + 3 + 5 by omega]; exact e3
    · rw [show (j + 1) * 5 + 4 = j * 5 + 4 + 5 by omega]; exact e4
theorem VR.none (w : World) (S : Nat → Prop) : VR w S [] ([] : List VT).length (fun j => ([] : List VT).getD j .leaf) := ⟨rfl, fun j hj => by simp at hj⟩
end Go.Proofs.YtfploakafbnigaaGreatDoor
namespace Go.Proofs.YtfploakafbnigaaGreatDoor
open Go.RowKit Val
set_option linter.unusedVariables false
set_option linter.unusedSimpArgs false
end Go.Proofs.YtfploakafbnigaaGreatDoor
namespace Go.Proofs.YtfploakafbnigaaGreatDoorW.PrintLast
open Go.RowKit
set_option linter.unusedVariables false
set_option linter.unusedSimpArgs false
section
variable {P : Program} {ops : Array Oper} {Q : Exit → Act → World → Prop} {md : Region.Mode} {T : Bool × List (List Nat × List Nat)} {B : List Nat} {O : List Nat}
/-- what each operation gives: its number, its slot, what is told of it -/
abbrev Tolds := List (Nat × Tmp × (World → Value → Prop))
def Tolds.put (L : Tolds) (V : Nat → Value) : List (Nat × Tmp × Value) := L.map fun e => (e.1, e.2.1, V e.1)
/-- all that is listed is told; behind the last one (s) what follows holds -/
def ToldI (Q : Exit → Act → World → Prop) (L : Tolds) (s : Nat) (w0 : World) (a0 : Act) (b : Nat → Bool) (a : Act) (w : World) : Prop :=
  (b s = false → ∃ V : Nat → Value, a = putSel a0 b (L.put V) ∧ Below w0.heap.size w0 w ∧ ∀ e ∈ L, b e.1 = true → e.2.2 w (V e.1)) ∧ (b s = true → Q .normal a w)
def Tolds.up (L : Tolds) : Prop := ∀ e ∈ L, ∀ w w' v, e.2.2 w v → Below w.heap.size w w' → e.2.2 w' v
/-- each number once, each slot once, none of them s -/
def Tolds.ok (L : Tolds) (s : Nat) : Bool := decide (L.map (·.1)).Nodup && decide (L.map (·.2.1)).Nodup && (L.map (·.1)).all fun i => !(i == s)
theorem told_get {L : Tolds} {s : Nat} {V : Nat → Value} {b : Nat → Bool} {a0 a : Act} (k : Nat) {i : Nat} {t : Tmp} {F : World → Value → Prop} (hok : L.ok s = true) (hL : L[k]? = some (i, t, F)) (ha : a = putSel a0 b (L.put V)) (hb : b i = true) (ht : Nat.ble (t + 1) a0.tmps.size = true) : a.tmps[t]? = some (V i) := by
  subst ha
  unfold Tolds.ok at hok
  simp only [Bool.and_eq_true, decide_eq_true_eq] at hok
  refine putSel_on (e := (i, t, V i)) k (by simp [Tolds.put, hL]) ?_ hb ht
  rw [List.all_eq_true]
  intro x hx
  obtain ⟨m, hm, rfl⟩ := List.getElem_of_mem hx
  have hm2 : k + 1 + m < L.length := by simp [Tolds.put] at hm; omega
  have hk : k < L.length := (List.getElem?_eq_some_iff.1 hL).1
  have hkt : (L.map (·.2.1))[k]? = some t := by simp [hL]
  have hmt : (L.map (·.2.1))[k + 1 + m]? = some (L[k + 1 + m].2.1) := by simp [hm2]
  have hne : L[k + 1 + m].2.1 ≠ t := by
    intro e
    have := (List.getElem?_inj (i := k) (j := k + 1 + m) (by simpa using hk) hok.1.2).1 (by rw [hkt, hmt, e])
    omega
  simpa [Tolds.put] using hne
theorem told_set {L : Tolds} {s : Nat} (V : Nat → Value) (k : Nat) {i : Nat} {t : Tmp} {F : World → Value → Prop} (hok : L.ok s = true) (hL : L[k]? = some (i, t, F)) (v : Value) : (L.put V).set k (i, t, v) = L.put (fun j => if j = i then v else V j) := by
  unfold Tolds.ok at hok
  simp only [Bool.and_eq_true, decide_eq_true_eq] at hok
  have hk : k < L.length := (List.getElem?_eq_some_iff.1 hL).1
  apply List.ext_getElem?
  intro m
  by_cases hmk : k = m
  · subst hmk
    rw [List.getElem?_set_self (by simpa [Tolds.put] using hk)]
    simp [Tolds.put, hL]
  · rw [List.getElem?_set_ne hmk]
    simp only [Tolds.put, List.getElem?_map]
    cases hm : L[m]? with
    | none => rfl
    | some e =>
      have hne : e.1 ≠ i := by
        intro e2
        have := (List.getElem?_inj (i := k) (j := m) (l := L.map (·.1)) (by simpa using hk) hok.1.1).1 (by simp [hL, hm, e2])
        exact hmk this
      simp [hne]
/-- one step: the operation at place k of the list -/
theorem told_step {L : Tolds} {s : Nat} {w0 : World} {a0 : Act} (k : Nat) {i : Nat} {t : Tmp} {F : World → Value → Prop} (hok : L.ok s = true) (hup : L.up) (hL : L[k]? = some (i, t, F)) (hs : (O.contains s && (B.getD s 0).testBit i) = true)
    (h : ∀ b V a w, a = putSel a0 b (L.put V) → Below w0.heap.size w0 w → (∀ e ∈ L, b e.1 = true → e.2.2 w (V e.1)) → (∀ j, (O.contains j && (B.getD i 0).testBit j) = true → b j = true) →
      ∃ oi, ops[i]? = some oi ∧ oi.dst = some t ∧ ∀ K : Act → World → Prop, (∀ v w', Below w.heap.size w w' → F w' v → K (a.put (some t) v) w') → if Region.wanted oi (yielded ops a.tmps) = true then Oper.wp P oi a w K Q else K (a.put (some t) undef) w) :
    StepAt P ops Q B O (ToldI Q L s w0 a0) i := by
  intro b a w hI hb hon hoff
  have hbs := hoff s hs
  obtain ⟨V, ha, hB, hF⟩ := hI.1 hbs
  obtain ⟨oi, ho, hd, hK⟩ := h b V a w ha hB hF hon
  refine ⟨oi, ho, fun K hKs => ?_⟩
  have := hK K (fun v w' hb' hv => hKs _ _ ?_)
  · rw [hd]; exact this
  have hok' := hok
  unfold Tolds.ok at hok'
  simp only [Bool.and_eq_true, decide_eq_true_eq] at hok'
  have hk : k < L.length := (List.getElem?_eq_some_iff.1 hL).1
  have hsi : s ≠ i := by
    have h3 := List.all_eq_true.1 hok'.2 i (List.mem_map.2 ⟨(i, t, F), List.mem_of_getElem? hL, rfl⟩)
    intro e
    rw [e] at h3
    simp at h3
  refine ⟨fun _ => ⟨fun j => if j = i then v else V j, ?_, hB.trans (hb'.mono hB.size), ?_⟩, fun h' => ?_⟩
  · subst ha
    refine (putSel_upk (v0 := V i) k hb (by simp [Tolds.put, hL]) (told_set V k hok hL v) ?_)
    have hne : ∀ m, m ≠ k → ∀ e, L[m]? = some e → e.1 ≠ i ∧ e.2.1 ≠ t := by
      intro m hm e he
      refine ⟨fun e2 => hm ?_, fun e2 => hm ?_⟩
      · exact ((List.getElem?_inj (i := k) (j := m) (l := L.map (·.1)) (by simpa using hk) hok'.1.1).1 (by simp [hL, he, e2])).symm
      · exact ((List.getElem?_inj (i := k) (j := m) (l := L.map (·.2.1)) (by simpa using hk) hok'.1.2).1 (by simp [hL, he, e2])).symm
    rw [List.all_append, Bool.and_eq_true]
    constructor
    · rw [List.all_eq_true]
      intro x hx
      obtain ⟨m, hm, rfl⟩ := List.getElem_of_mem hx
      have hm1 : m < k ∧ m < L.length := by simp [Tolds.put] at hm; omega
      have := hne m (by omega) L[m] (List.getElem?_eq_getElem hm1.2)
      simp [Tolds.put, this.1, this.2]
    · rw [List.all_eq_true]
      intro x hx
      obtain ⟨m, hm, rfl⟩ := List.getElem_of_mem hx
      have hm1 : k + 1 + m < L.length := by simp [Tolds.put] at hm; omega
      have := hne (k + 1 + m) (by omega) L[k + 1 + m] (List.getElem?_eq_getElem hm1)
      simp [Tolds.put, this.1, this.2]
  · intro e he hbe
    by_cases hei : e.1 = i
    · obtain ⟨m, hm⟩ := List.mem_iff_getElem?.1 he
      have hmk : k = m := (List.getElem?_inj (i := k) (j := m) (l := L.map (·.1)) (by simpa using hk) hok'.1.1).1 (by simp [hL, hm, hei])
      subst hmk
      rw [hL] at hm
      injection hm with hm
      subst hm
      simpa using hv
    · simp only [if_neg hei]
      rw [up_ne hei] at hbe
      exact hup e he _ _ _ (hF e he hbe) hb'
  · rw [up_ne hsi, hbs] at h'
    cases h'
/-- the last step: it waits for all -/
theorem told_last {L : Tolds} {s : Nat} {w0 : World} {a0 : Act} (hall : ∀ e ∈ L, (O.contains e.1 && (B.getD s 0).testBit e.1) = true)
    (h : ∀ V a w, a = putSel a0 (fun _ => true) (L.put V) → Below w0.heap.size w0 w → (∀ e ∈ L, e.2.2 w (V e.1)) →
      ∃ oi, ops[s]? = some oi ∧ oi.dst = none ∧ ∀ K : Act → World → Prop, (∀ a' w', Q .normal a' w' → K a' w') → if Region.wanted oi (yielded ops a.tmps) = true then Oper.wp P oi a w K Q else K (a.put none undef) w) :
    StepAt P ops Q B O (ToldI Q L s w0 a0) s := by
  intro b a w hI hb hon hoff
  obtain ⟨V, ha, hB, hF⟩ := hI.1 hb
  have hbt : ∀ e ∈ L, b e.1 = true := fun e he => hon _ (hall e he)
  have ha2 : a = putSel a0 (fun _ => true) (L.put V) := by
    rw [ha]
    have : ∀ (M : List (Nat × Tmp × Value)) (a0 : Act), (∀ e ∈ M, b e.1 = true) → putSel a0 b M = putSel a0 (fun _ => true) M := by
      intro M
      induction M with
      | nil => intro a0 _; rfl
      | cons e M ih =>
        intro a0 hM
        unfold putSel
        rw [hM e List.mem_cons_self]
        exact ih _ (fun x hx => hM x (List.mem_cons_of_mem _ hx))
    refine this _ _ (fun e he => ?_)
    obtain ⟨x, hx, rfl⟩ := List.mem_map.1 he
    exact hbt x hx
  obtain ⟨oi, ho, hd, hK⟩ := h V a w ha2 hB (fun e he => hF e he (hbt e he))
  refine ⟨oi, ho, fun K hKs => ?_⟩
  rw [hd]
  exact hK K (fun a' w' hQ => hKs _ _ ⟨(fun h' => by rw [up_self] at h'; cases h'), fun _ => hQ⟩)
theorem told_end {L : Tolds} {s : Nat} {w0 : World} {a0 : Act} (hs : O.contains s = true) : ∀ b a w, (∀ j, O.contains j = true → b j = true) → ToldI Q L s w0 a0 b a w → Q .normal a w := fun b a w hb h => h.2 (hb s hs)
theorem told_begin {L : Tolds} {s : Nat} {w0 : World} {a0 : Act} : ToldI Q L s w0 a0 (fun _ => false) a0 w0 := by
  refine ⟨fun _ => ⟨fun _ => undef, ?_, Below.refl _ _, (fun _ _ h => by simp at h)⟩, (fun h => by simp at h)⟩
  have : ∀ (M : List (Nat × Tmp × Value)) (a0 : Act), a0 = putSel a0 (fun _ => false) M := by
    intro M
    induction M with
    | nil => intro a0; rfl
    | cons e M ih => intro a0; unfold putSel; simp only [Bool.false_eq_true, if_false]; exact ih a0
  exact this _ _
theorem tup_nil : Tolds.up [] := fun _ h => by cases h
theorem tup_cons {i : Nat} {t : Tmp} {F : World → Value → Prop} {L : Tolds} (h : ∀ w w' v, F w v → Below w.heap.size w w' → F w' v) (hs : Tolds.up L) : Tolds.up ((i, t, F) :: L) := fun e he => by
  rcases List.mem_cons.1 he with rfl | he
  · exact h
  · exact hs e he
theorem told_fact {L : Tolds} {V : Nat → Value} {b : Nat → Bool} {w : World} (k : Nat) {i : Nat} {t : Tmp} {F : World → Value → Prop} (hF : ∀ e ∈ L, b e.1 = true → e.2.2 w (V e.1)) (hL : L[k]? = some (i, t, F)) (hb : b i = true) : F w (V i) := hF _ (List.mem_of_getElem? hL) hb
end
end Go.Proofs.YtfploakafbnigaaGreatDoorW.PrintLast
namespace Go.Proofs.YtfploakafbnigaaGreatDoor
open Go.RowKit Val YtfploakafbnigaaGreatDoorW.PrintLast
set_option linter.unusedVariables false
set_option linter.unusedSimpArgs false
def BXV (B : Nat) (w : World) (v : Value) : Prop := ∃ g, v = .pointer (some ⟨g, 0, none⟩) ∧ B ≤ g ∧ BX w g (.int .i64 0) (.bool false) (.string ⟨#[]⟩) (.slice none 0 0) (.slice none 0 0)
theorem BXV.up {B : Nat} {w w' : World} {v : Value} (h : BXV B w v) (hb : Below w.heap.size w w') : BXV B w' v := by
  obtain ⟨g, e, h1, h2⟩ := h
  exact ⟨g, e, h1, h2.on hb⟩
def EZ (B : Nat) (l : List VT.Ed) (A : Option Addr) (w : World) : Prop := ES w ((zNew B).S w) A l
theorem EZ.up {B : Nat} {l : List VT.Ed} {A : Option Addr} {w w' : World} (h : EZ B l A w) (hb : Below w.heap.size w w') : EZ B l A w' := ES.same h (below_same hb (fun _ h => h.2)) (fun b h => (zNew B).up _ _ b h hb)
theorem EZ.two {B : Nat} {l0 l1 : VT.Ed} {A : Option Addr} {w : World} (h : EZ B [l0, l1] A w) : ∃ b o, A = some ⟨b, o, none⟩ ∧ w.cell? ⟨b, o, none⟩ = some (.bool l0.whole) ∧ w.cell? ⟨b, o + 1, none⟩ = some (.int .i64 l0.a) ∧ w.cell? ⟨b, o + 2, none⟩ = some (.int .i64 l0.b) ∧ w.cell? ⟨b, o + 3, none⟩ = some (.int .i64 l0.c) ∧ w.cell? ⟨b, o + 4, none⟩ = some (.int .i64 l0.d) ∧ w.cell? ⟨b, o + 5, none⟩ = some (.string l0.text) ∧
    w.cell? ⟨b, o + 6, none⟩ = some (.bool l1.whole) ∧ w.cell? ⟨b, o + 7, none⟩ = some (.int .i64 l1.a) ∧ w.cell? ⟨b, o + 8, none⟩ = some (.int .i64 l1.b) ∧ w.cell? ⟨b, o + 9, none⟩ = some (.int .i64 l1.c) ∧ w.cell? ⟨b, o + 10, none⟩ = some (.int .i64 l1.d) ∧ w.cell? ⟨b, o + 11, none⟩ = some (.string l1.text) := by
  rcases h with h | ⟨b, o, e, -, hc⟩
  · cases h
  · obtain ⟨a0, a1, a2, a3, a4, a5⟩ := hc 0 (by simp)
    obtain ⟨b0, b1, b2, b3, b4, b5⟩ := hc 1 (by simp)
    exact ⟨b, o, e, a0, a1, a2, a3, a4, a5, b0, b1, b2, b3, b4, b5⟩
end Go.Proofs.YtfploakafbnigaaGreatDoor
