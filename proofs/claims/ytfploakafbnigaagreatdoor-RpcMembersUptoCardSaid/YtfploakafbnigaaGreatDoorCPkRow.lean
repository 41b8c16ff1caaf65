/-
  Joined texts: NumRowKit ValRow.
-/
import Derived.Test.YtfploakafbnigaaGreatDoorCPkNumC
import Derived.Test.YtfploakafbnigaaGreatDoorCards
import Derived.Test.YtfploakafbnigaaGreatDoorTie
import Derived.WalkKit
import Derived.ProofKit
import Derived.OpenShut
import Derived.SizedLaws
import Derived.ChangeSlices
import Derived.Deep.DeepHandedRow
import Derived.Deep.DeepWitnessRowRef
import Derived.Lay
import Derived.Test.YtfploakafbnigaaGreatDoorCPkValA
import Derived.Deep.Slices
import Derived.SliceStrings
namespace Go.Proofs.YtfploakafbnigaaGreatDoor.rowkit
open Go.ChangeShapes Go.WideShapes Go.ChangeAt Go.RowKit
set_option linter.unusedVariables false
set_option linter.unusedSimpArgs false
theorem own : ownKnob Tryz.prog.godebug = none := by kernel_rfl
theorem laidOut : laidOutB Tryz.prog = true := by kernel_rfl
/-- strings.Index's variable, out of the world's shape. -/
theorem ml {W : World} (h : W.ShapedOpen Tryz.prog) : ML W := Tryz.laysM219.s1_3 W h
end Go.Proofs.YtfploakafbnigaaGreatDoor.rowkit
namespace Go.Proofs.YtfploakafbnigaaGreatDoor.rowkit
open Go.ChangeShapes Go.WideShapes Go.ChangeAt Go.RowKit Go.Deep Val
set_option linter.unusedVariables false
set_option linter.unusedSimpArgs false
instance : Inhabited VT := ⟨.leaf⟩
theorem bulkAll_append {H : Type} (l r : List (DataW H)) : Rows.uptoBulkAll (l ++ r) = Rows.uptoBulkAll l + Rows.uptoBulkAll r := by
  induction l with
  | nil => simp [Rows.uptoBulkAll]
  | cons d l ih => simp only [List.cons_append, Rows.uptoBulkAll, ih]; omega
theorem bulkAll_range {H : Type} (D : Nat → DataW H) (f : Nat → Nat) : ∀ n, (∀ i, i < n → f i ≤ Rows.uptoBulk (D i)) → VT.sumTo f n ≤ Rows.uptoBulkAll ((List.range n).map D)
  | 0, _ => Nat.zero_le _
  | n + 1, h => by
    have := bulkAll_range D f n (fun i hi => h i (by omega))
    have := h n (by omega)
    rw [List.range_succ, List.map_append, bulkAll_append]
    simp only [List.map_cons, List.map_nil, Rows.uptoBulkAll, VT.sumTo]
    omega
theorem bulkAll_mem {H : Type} (D : Nat → DataW H) : ∀ n i, i < n → Rows.uptoBulk (D i) ≤ Rows.uptoBulkAll ((List.range n).map D)
  | 0, i, h => by omega
  | n + 1, i, h => by
    rw [List.range_succ, List.map_append, bulkAll_append]
    simp only [List.map_cons, List.map_nil, Rows.uptoBulkAll]
    by_cases e : i = n
    · subst e; omega
    · have := bulkAll_mem D n i (by omega); omega
theorem bulkAll_strs {H : Type} (l : List ByteArray) : l.length + (l.map ByteArray.size).sum = Rows.uptoBulkAll (strs (H := H) l) := by
  induction l with
  | nil => rfl
  | cons s l ih =>
    unfold strs at ih ⊢
    simp only [List.map_cons, Rows.uptoBulkAll, Rows.uptoBulk, List.length_cons, List.sum_cons]
    rw [← ih]
    have : s.data.toList.length = s.size := Array.length_toList
    omega
theorem sumTo_3 (f : Nat → Nat) : ∀ n, VT.sumTo (fun i => f i + 3) n = VT.sumTo f n + 3 * n
  | 0 => rfl
  | n + 1 => by unfold VT.sumTo; rw [sumTo_3 f n]; omega
theorem addr_plain' {w : World} {a : Addr} {v : Value} (h : w.cell? (a.add 0) = some v) : ∃ b off, a = ⟨b, off, none⟩ := by
  obtain ⟨b, off, s⟩ := a
  refine ⟨b, off, ?_⟩
  cases s with
  | none => rfl
  | some q =>
    simp only [Addr.add, if_true, World.cell?] at h
    split at h <;> simp at h
theorem add_plain' (b off j : Nat) : (⟨b, off, none⟩ : Addr).add j = ⟨b, off + j, none⟩ := by unfold Addr.add; split <;> simp_all
/-- A row of texts that came in. -/
theorem names_in {H : Type} {enc : TypeId × Value → H} {W : World} {fuel : Nat} {cs : List Value} {x : DataW H × List MemPlace} (h : DataW.trod enc Tryz.prog W 0 (fun _ => true) true fuel 23 cs = some x) :
    ∃ A m cap, cs = [.slice A (m : List ByteArray).length cap] ∧ TS W (fun b => b < W.heap.size) A m ∧ m.length + (m.map ByteArray.size).sum + 1 ≤ Rows.uptoBulk x.1 := by
  rcases open_strings Tryz.underlying23 Tryz.underlying9 (by kernel_rfl) h with ⟨rfl, rfl⟩ | ⟨a, len, cap, ss, rfl, -, hl, hm, hss, rfl, hc, -⟩
  · exact ⟨none, [], 0, rfl, .inl rfl, by simp [Rows.uptoBulk]⟩
  · simp only [if_true] at hss
    have e : (ss.take len).length = len := by rw [List.length_take]; omega
    refine ⟨some a, ss.take len, cap, by rw [e], ?_, ?_⟩
    · by_cases h0 : len = 0
      · subst h0; exact .inl rfl
      · obtain ⟨b, off, rfl⟩ := addr_plain' (hc 0 (by omega))
        refine .inr ⟨b, off, rfl, ?_, fun j hj => ?_⟩
        · have := World.block_lt_of_cell? W _ (hc 0 (by omega))
          rwa [add_plain'] at this
        · have := hc j (by omega)
          rw [add_plain'] at this
          rw [this, List.getElem_take]
          rw [List.getD_eq_getElem?_getD, List.getElem?_eq_getElem (show j < ss.length by omega)]; rfl
    · rw [bulkAll_strs (H := H)]
      simp only [Rows.uptoBulk]
      omega
theorem list5 {α : Type} {l : List α} (h : l.length = 5) : ∃ a b c d e, l = [a, b, c, d, e] := by
  match l, h with
  | [a, b, c, d, e], _ => exact ⟨a, b, c, d, e, rfl⟩
set_option maxRecDepth 100000 in
/-- A value that came in. -/
theorem value_in {H : Type} {enc : TypeId × Value → H} {W : World} : ∀ (N fuel : Nat) (cs : List Value) (x : DataW H × List MemPlace), Rows.uptoBulk x.1 ≤ N → DataW.trod enc Tryz.prog W 0 (fun _ => true) true fuel 25 cs = some x →
    ∃ t v0 v1 v2 v3 v4, cs = [v0, v1, v2, v3, v4] ∧ VAL W (fun b => b < W.heap.size) t (.agg #[v0, v1, v2, v3, v4]) ∧ t.bulk + 3 ≤ Rows.uptoBulk x.1 := by
  intro N
  induction N with
  | zero =>
    intro fuel cs x hN h
    obtain ⟨xs, n, -, rfl, -⟩ := DataW.trod_struct Tryz.underlying25 h
    simp only [Rows.uptoBulk] at hN
    omega
  | succ N ih =>
    intro fuel cs x hN h
    obtain ⟨xs, n, -, rfl, hl, hlen, hf⟩ := DataW.trod_struct Tryz.underlying25 h
    have hl5 : cs.length = 5 := hl.trans (by kernel_rfl)
    obtain ⟨v0, v1, v2, v3, v4, rfl⟩ := list5 hl5
    obtain ⟨y0, y1, y2, y3, y4, rfl⟩ := list5 (l := xs) (hlen.trans rfl)
    clear hl hlen hl5
    obtain ⟨k, e0, ex0, hk⟩ := DataW.trod_int Tryz.underlying3 (hf 0 _ rfl)
    obtain ⟨i, e1, ex1⟩ := DataW.trod_bool Tryz.underlying4 (hf 1 _ rfl)
    obtain ⟨tx, e2, ex2, htx⟩ := DataW.trod_string Tryz.underlying9 (hf 2 _ rfl)
    obtain ⟨A', m, cap', e4, hT, hm⟩ := names_in (hf 4 _ rfl)
    have h3 := hf 3 _ rfl
    have c3 : Tryz.prog.cellsOf 3 = 1 := by kernel_rfl
    have c4 : Tryz.prog.cellsOf 4 = 1 := by kernel_rfl
    have c9 : Tryz.prog.cellsOf 9 = 1 := by kernel_rfl
    have cl : Tryz.prog.cellsOf 22 = 1 := by kernel_rfl
    have cn : Tryz.prog.cellsOf 23 = 1 := by kernel_rfl
    replace e0 : v0 = .int .i64 k := by simpa [c3] using e0
    replace e1 : v1 = .bool i := by simpa [c4] using e1
    replace e2 : v2 = .string tx := by simpa [c9] using e2
    replace e4 : v4 = .slice A' m.length cap' := by simpa [cn] using e4
    replace h3 : DataW.trod enc Tryz.prog W 0 (fun _ => true) true n 22 [v3] = some y3 := by simpa [cl] using h3
    subst e0; subst e1; subst e2; subst e4; subst ex0; subst ex1; subst ex2
    have hL : ∃ A p cap c, v3 = .slice A p cap ∧ VS W (fun b => b < W.heap.size) A p c ∧ p + VT.sumTo (fun j => (c j).bulk) p + 1 ≤ Rows.uptoBulk y3.1 := by
      rcases open_slice Tryz.underlying22 h3 with ⟨e, rfl⟩ | ⟨a, len, cap, m2, n2, D, Pl, e, -, hl, -, hmm, rfl, hx⟩
      · injection e with e; exact ⟨none, 0, 0, fun _ => .leaf, e, .inl rfl, by simp [Rows.uptoBulk, VT.sumTo]⟩
      · injection e with e
        simp only [if_true] at hmm
        have hc5 : Tryz.prog.cellsOf 25 = 5 := by kernel_rfl
        obtain ⟨c, hc⟩ := choose_lt (n := len) (p := fun j (u : VT) => (∃ b off, a = ⟨b, off, none⟩ ∧ b < W.heap.size ∧ ∃ v0 v1 v2 v3 v4, C5 W b (off + j * 5) v0 v1 v2 v3 v4 ∧ VAL W (fun b => b < W.heap.size) u (.agg #[v0, v1, v2, v3, v4])) ∧ u.bulk + 3 ≤ Rows.uptoBulk (D j)) (fun j hj => by
          obtain ⟨cs', hcs, htr⟩ := hx j (by omega)
          obtain ⟨cs0, hcs0, htr0⟩ := hx 0 (by omega)
          have hDN : Rows.uptoBulk (D j) ≤ N := by
            have := bulkAll_mem D len j hj
            simp only [List.map_cons, List.map_nil, Rows.uptoBulk, Rows.uptoBulkAll] at hN
            omega
          obtain ⟨u, v0, v1, v2, v3, v4, rfl, hu, hub⟩ := ih n2 cs' (D j, Pl j) hDN htr
          rw [hc5] at hcs hcs0
          obtain ⟨-, -, h0⟩ := World.cells?_some hcs
          obtain ⟨-, hl0, h00⟩ := World.cells?_some hcs0
          obtain ⟨z0, z1, z2, z3, z4, rfl⟩ := list5 hl0
          have hz := h00 0 (by omega)
          rw [Nat.zero_mul] at hz
          obtain ⟨b, off, rfl⟩ : ∃ b off, a = ⟨b, off, none⟩ := by
            obtain ⟨b, off, s⟩ := a
            refine ⟨b, off, ?_⟩
            cases s with
            | none => rfl
            | some q =>
              simp only [Addr.add, if_true, World.cell?] at hz
              split at hz <;> simp at hz
          simp only [add_plain'] at h0 hz
          have hlt := World.block_lt_of_cell? W _ hz
          exact ⟨u, ⟨b, off, rfl, hlt, v0, v1, v2, v3, v4, ⟨h0 0 (by omega), h0 1 (by omega), h0 2 (by omega), h0 3 (by omega), h0 4 (by omega)⟩, hu⟩, hub⟩)
        refine ⟨some a, len, cap, c, e, ?_, ?_⟩
        · by_cases h0 : len = 0
          · exact .inl h0
          · obtain ⟨⟨b, off, rfl, hb, -⟩, -⟩ := hc 0 (by omega)
            refine .inr ⟨b, off, rfl, hb, fun j hj => ?_⟩
            obtain ⟨⟨b', off', e', -, hh⟩, -⟩ := hc j hj
            injection e' with e1 e2
            subst e1; subst e2
            exact hh
        · have := bulkAll_range D (fun j => (c j).bulk + 3) len (fun j hj => (hc j hj).2)
          rw [sumTo_3 (fun j => (c j).bulk)] at this
          simp only [Rows.uptoBulk]
          omega
    obtain ⟨A, p, cap, c, rfl, hV, hb⟩ := hL
    refine ⟨.mk k i tx p c m, _, _, _, _, _, rfl, ⟨A, cap, A', cap', rfl, bounds_i64 hk, hT, hV⟩, ?_⟩
    show 1 + tx.size + p + m.length + (m.map ByteArray.size).sum + VT.sumTo (fun j => (c j).bulk) p + 3 ≤ _
    have : tx.data.toList.length = tx.size := Array.length_toList
    simp only [List.map_cons, List.map_nil, Rows.uptoBulk, Rows.uptoBulkAll]
    omega
theorem value_at {H : Type} {enc : TypeId × Value → H} {W : World} {xs : Array Value} {d : DataW H} {ps : List MemPlace}
    (h : DataW.Trod enc Tryz.prog W 0 (fun _ => true) true 25 (.agg xs) d ps) : ∃ t, VAL W (fun b => b < W.heap.size) t (.agg xs) ∧ t.bulk + 3 ≤ Rows.uptoBulk d := by
  obtain ⟨fuel, hf⟩ := h
  obtain ⟨t, v0, v1, v2, v3, v4, e, hv, hb⟩ := value_in _ fuel _ _ (Nat.le_refl _) hf
  have e2 : xs = #[v0, v1, v2, v3, v4] := by
    apply Array.ext'
    simpa [Value.cells] using e
  rw [e2]
  exact ⟨t, hv, hb⟩
end Go.Proofs.YtfploakafbnigaaGreatDoor.rowkit
