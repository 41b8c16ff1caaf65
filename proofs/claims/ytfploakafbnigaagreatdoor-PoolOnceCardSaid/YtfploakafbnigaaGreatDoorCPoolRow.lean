/-
  Layer 28, the rows: how a []int and a []Deed that came in read.
-/
import Derived.Test.YtfploakafbnigaaGreatDoorCPkRow
import Derived.Test.YtfploakafbnigaaGreatDoorCPoolMem
import Derived.Deep.Slices
namespace Go.Proofs.YtfploakafbnigaaGreatDoor
open Go.RowKit Val Pl
set_option linter.unusedVariables false
set_option linter.unusedSimpArgs false
/-- a row of numbers that came in -/
def IB (w : World) (B : Nat) (a : Option Addr) (l : List Int) : Prop := l = [] ∨ ∃ b off, a = some ⟨b, off, none⟩ ∧ b < B ∧ ∀ i x, l[i]? = some x → w.cell? ⟨b, off + i, none⟩ = some (.int .i64 x) ∧ I64 x
theorem IB.on {w w' : World} {B : Nat} {a : Option Addr} {l : List Int} (h : IB w B a l) (hb : Below B w w') : IB w' B a l := by
  rcases h with h | ⟨b, off, e, h1, h2⟩
  · exact .inl h
  · exact .inr ⟨b, off, e, h1, fun i x hx => ⟨(hb.cell (p := ⟨b, off + i, none⟩) h1).trans (h2 i x hx).1, (h2 i x hx).2⟩⟩
/-- a row of deeds that came in -/
def DB (w : World) (B : Nat) (a : Option Addr) (l : List (Int × Int)) : Prop := l = [] ∨ ∃ b off, a = some ⟨b, off, none⟩ ∧ b < B ∧ ∀ i x, l[i]? = some x → w.cell? ⟨b, off + i * 2, none⟩ = some (.int .i64 x.1) ∧ w.cell? ⟨b, off + i * 2 + 1, none⟩ = some (.int .i64 x.2) ∧ I64 x.1 ∧ I64 x.2
end Go.Proofs.YtfploakafbnigaaGreatDoor
namespace Go.Proofs.YtfploakafbnigaaGreatDoor.rowkit
open Go.ChangeShapes Go.WideShapes Go.ChangeAt Go.RowKit Go.Deep Val
set_option linter.unusedVariables false
set_option linter.unusedSimpArgs false
theorem ints_in {H : Type} {enc : TypeId × Value → H} {W : World} {a : Option Addr} {len cap : Nat} {d : DataW H} {ps : List MemPlace}
    (h : DataW.Trod enc Tryz.prog W 0 (fun _ => true) true 75 (.slice a len cap) d ps) : ∃ l : List Int, l.length = len ∧ len ≤ 9223372036854775807 ∧ IB W W.heap.size a l := by
  obtain ⟨fuel, hf⟩ := h
  rcases open_ints Tryz.underlying75 Tryz.underlying3 (by kernel_rfl) hf with ⟨hcs, _⟩ | ⟨x, l, c, zs, hcs, _, hl, hm, hz, _, hcell, hwz⟩
  · simp [Value.cells] at hcs
    obtain ⟨rfl, rfl, rfl⟩ := hcs
    exact ⟨[], rfl, by omega, .inl rfl⟩
  · simp [Value.cells] at hcs
    obtain ⟨rfl, rfl, rfl⟩ := hcs
    have hzl : zs.length = cap := by simpa using hz
    have hm' := hm
    unfold maxLen at hm'
    refine ⟨zs.take len, by rw [List.length_take]; omega, by omega, ?_⟩
    by_cases h0 : len = 0
    · subst h0; exact .inl rfl
    · obtain ⟨b, off, rfl⟩ : ∃ b off, x = ⟨b, off, none⟩ := by
        have := hcell 0 (by omega)
        obtain ⟨b, off, s⟩ := x
        cases s with
        | none => exact ⟨b, off, rfl⟩
        | some s =>
          simp only [Addr.add, World.cell?] at this
          split at this <;> simp at this
      refine .inr ⟨b, off, rfl, by have := World.block_lt_of_cell? W _ (hcell 0 (by omega)); simpa [Addr.add] using this, fun i x hx => ?_⟩
      have hi := (List.getElem?_eq_some_iff.1 hx).1
      rw [List.length_take] at hi
      rw [List.getElem?_take, if_pos (by omega)] at hx
      have h1 := hcell i (by omega)
      rw [Addr.add_lit] at h1
      have h2 : zs.getD i 0 = x := by rw [List.getD_eq_getElem?_getD, hx]; rfl
      rw [h2] at h1
      exact ⟨h1, bounds_i64 (hwz x (List.mem_iff_getElem?.2 ⟨i, hx⟩))⟩
theorem pool_list2 {α : Type} {l : List α} (h : l.length = 2) : ∃ a b, l = [a, b] := by
  match l, h with
  | [a, b], _ => exact ⟨a, b, rfl⟩
theorem deed_in {H : Type} {enc : TypeId × Value → H} {W : World} {fuel : Nat} {cs : List Value} {x : DataW H × List MemPlace}
    (h : DataW.trod enc Tryz.prog W 0 (fun _ => true) true fuel 63 cs = some x) : ∃ y : Int × Int, cs = [.int .i64 y.1, .int .i64 y.2] ∧ I64 y.1 ∧ I64 y.2 := by
  have ci : Tryz.prog.cellsOf 3 = 1 := by kernel_rfl
  obtain ⟨xs, n, -, rfl, hl, hlen, hf⟩ := DataW.trod_struct Tryz.underlying63 h
  obtain ⟨v0, v1, rfl⟩ := pool_list2 (hl.trans (by kernel_rfl))
  obtain ⟨y0, y1, rfl⟩ := pool_list2 (l := xs) (hlen.trans rfl)
  have e0 : DataW.trod enc Tryz.prog W 0 (fun _ => true) true n 3 (([v0, v1].drop 0).take (Tryz.prog.cellsOf 3)) = some y0 := hf 0 _ rfl
  have e1 : DataW.trod enc Tryz.prog W 0 (fun _ => true) true n 3 (([v0, v1].drop 1).take (Tryz.prog.cellsOf 3)) = some y1 := hf 1 _ rfl
  rw [ci] at e0 e1
  obtain ⟨a, ea, -, wa⟩ := DataW.trod_int Tryz.underlying3 e0
  obtain ⟨b, eb, -, wb⟩ := DataW.trod_int Tryz.underlying3 e1
  simp at ea eb
  subst ea; subst eb
  exact ⟨(a, b), rfl, bounds_i64 wa, bounds_i64 wb⟩
set_option maxRecDepth 100000 in
theorem deeds_in {H : Type} {enc : TypeId × Value → H} {W : World} {a : Option Addr} {len cap : Nat} {d : DataW H} {ps : List MemPlace}
    (h : DataW.Trod enc Tryz.prog W 0 (fun _ => true) true 56 (.slice a len cap) d ps) : ∃ l : List (Int × Int), l.length = len ∧ len ≤ 9223372036854775807 ∧ DB W W.heap.size a l := by
  obtain ⟨fuel, hf⟩ := h
  have hk : Tryz.prog.cellsOf 63 = 2 := by kernel_rfl
  rcases open_slice Tryz.underlying56 hf with ⟨e, _⟩ | ⟨ad, len', cap', m2, n2, D, Pl, e, -, hl, hcm, hmm, hx2, hx⟩
  · simp [Value.cells] at e
    obtain ⟨rfl, rfl, rfl⟩ := e
    exact ⟨[], rfl, by omega, .inl rfl⟩
  · simp [Value.cells] at e
    obtain ⟨rfl, rfl, rfl⟩ := e
    simp only [if_true] at hmm
    have hlen : len ≤ 9223372036854775807 := by have h1 := hcm; unfold maxLen at h1; omega
    have key : ∀ j, j < len → ∃ y : Int × Int, ∃ b off, ad = ⟨b, off, none⟩ ∧ b < W.heap.size ∧ W.cell? ⟨b, off + j * 2, none⟩ = some (.int .i64 y.1) ∧ W.cell? ⟨b, off + j * 2 + 1, none⟩ = some (.int .i64 y.2) ∧ I64 y.1 ∧ I64 y.2 := fun j hj => by
      obtain ⟨cs', hcs, htr⟩ := hx j (by omega)
      obtain ⟨cs0, hcs0, htr0⟩ := hx 0 (by omega)
      obtain ⟨u, rfl, hu⟩ := deed_in htr
      obtain ⟨u0, rfl, -⟩ := deed_in htr0
      rw [hk] at hcs hcs0
      obtain ⟨-, -, hc⟩ := World.cells?_some hcs
      obtain ⟨-, -, hc0⟩ := World.cells?_some hcs0
      have hz := hc0 0 (by omega)
      rw [Nat.zero_mul] at hz
      obtain ⟨b, off, rfl⟩ : ∃ b off, ad = ⟨b, off, none⟩ := by
        obtain ⟨b, off, s⟩ := ad
        refine ⟨b, off, ?_⟩
        cases s with
        | none => rfl
        | some q =>
          simp only [Addr.add, if_true, World.cell?] at hz
          split at hz <;> simp at hz
      simp only [add_plain'] at hc hz
      have hlt := World.block_lt_of_cell? W _ hz
      exact ⟨u, b, off, rfl, hlt, by have h := hc 0 (by omega); rw [Nat.add_zero] at h; exact h, hc 1 (by omega), hu⟩
    have hch := fun j : Fin len => key j.val j.isLt
    obtain ⟨y, hy⟩ : ∃ y : Fin len → Int × Int, ∀ j : Fin len, ∃ b off, ad = ⟨b, off, none⟩ ∧ b < W.heap.size ∧ W.cell? ⟨b, off + j.val * 2, none⟩ = some (.int .i64 (y j).1) ∧ W.cell? ⟨b, off + j.val * 2 + 1, none⟩ = some (.int .i64 (y j).2) ∧ I64 (y j).1 ∧ I64 (y j).2 := ⟨fun j => Classical.choose (hch j), fun j => Classical.choose_spec (hch j)⟩
    refine ⟨List.ofFn y, by simp, hlen, ?_⟩
    by_cases h0 : len = 0
    · subst h0; exact .inl (by simp)
    · obtain ⟨b, off, rfl, hb, -⟩ := hy ⟨0, by omega⟩
      refine .inr ⟨b, off, rfl, hb, fun i x hx => ?_⟩
      have hi : i < len := by have := (List.getElem?_eq_some_iff.1 hx).1; simpa using this
      obtain ⟨b', off', e', -, hh⟩ := hy ⟨i, hi⟩
      have e1 : b = b' := congrArg Addr.block e'
      have e2 : off = off' := congrArg Addr.off e'
      subst e1; subst e2
      have hxy : x = y ⟨i, hi⟩ := by
        obtain ⟨h1, h2⟩ := List.getElem?_eq_some_iff.1 hx
        rw [← h2]; simp
      rw [hxy]; exact hh
end Go.Proofs.YtfploakafbnigaaGreatDoor.rowkit
