/-
  Joined texts: MkBackRowKit.
-/
import Derived.Test.YthndgekjccclnaaGreatDoorPkMkR
import Derived.Test.YthndgekjccclnaaGreatDoorPkMkX
import Derived.Test.YthndgekjccclnaaGreatDoorPkParB
namespace Go.Proofs.YthndgekjccclnaaGreatDoor.rowkit
open Go.ChangeShapes Go.WideShapes Go.ChangeAt Go.RowKit Go.Deep Go.WideMaps Val
set_option linter.unusedVariables false
set_option linter.unusedSimpArgs false
instance : Inhabited VT.Ed := ⟨⟨true, 0, 0, 0, 0, .empty⟩⟩
theorem edit_in {H : Type} {enc : TypeId × Value → H} {W : World} {fuel : Nat} {cs : List Value} {x : DataW H × List MemPlace} (h : DataW.trod enc Tryz.prog W 0 (fun _ => true) true fuel 57 cs = some x) :
    ∃ y : VT.Ed, cs = edC y ∧ (I64 y.a ∧ I64 y.b ∧ I64 y.c ∧ I64 y.d) ∧ y.text.size + 1 ≤ Rows.uptoBulk x.1 := by
  obtain ⟨xs, n, -, rfl, hl, hlen, hf⟩ := DataW.trod_struct Tryz.underlying57 h
  obtain ⟨v0, v1, v2, v3, v4, v5, rfl⟩ := list6 (hl.trans (by kernel_rfl))
  obtain ⟨y0, y1, y2, rfl⟩ := list3 (l := xs) (hlen.trans rfl)
  have e0 : DataW.trod enc Tryz.prog W 0 (fun _ => true) true n 4 (([v0, v1, v2, v3, v4, v5].drop 0).take (Tryz.prog.cellsOf 4)) = some y0 := hf 0 _ rfl
  have e1 : DataW.trod enc Tryz.prog W 0 (fun _ => true) true n 55 (([v0, v1, v2, v3, v4, v5].drop 1).take (Tryz.prog.cellsOf 55)) = some y1 := hf 1 _ rfl
  have e2 : DataW.trod enc Tryz.prog W 0 (fun _ => true) true n 9 (([v0, v1, v2, v3, v4, v5].drop 5).take (Tryz.prog.cellsOf 9)) = some y2 := hf 2 _ rfl
  rw [cb] at e0
  rw [cr] at e1
  rw [cs] at e2
  obtain ⟨i, ei, xi⟩ := DataW.trod_bool Tryz.underlying4 e0
  obtain ⟨a, b, c, d, ea, wa, wb, wc, wd⟩ := range_in e1
  obtain ⟨tx, et, xt, wt⟩ := DataW.trod_string Tryz.underlying9 e2
  simp at ea ei et
  obtain ⟨rfl, rfl, rfl, rfl⟩ := ea
  subst ei; subst et; subst xt
  refine ⟨⟨i, a, b, c, d, tx⟩, rfl, ⟨wa, wb, wc, wd⟩, ?_⟩
  have : tx.data.toList.length = tx.size := Array.length_toList
  show tx.size + 1 ≤ _
  simp only [List.map_cons, List.map_nil, Rows.uptoBulk, Rows.uptoBulkAll]
  omega
theorem edits_at {H : Type} {enc : TypeId × Value → H} {W : World} {a : Option Addr} {len cap : Nat} {d : DataW H} {ps : List MemPlace} (h : DataW.Trod enc Tryz.prog W 0 (fun _ => true) true 40 (.slice a len cap) d ps) :
    ∃ l : List VT.Ed, l.length = len ∧ ER 6 edC W (fun b => b < W.heap.size) a l ∧ (∀ x ∈ l, I64 x.a ∧ I64 x.b ∧ I64 x.c ∧ I64 x.d) ∧ (∀ x ∈ l, x.text.size ≤ Rows.uptoBulk d) ∧ l.length ≤ Rows.uptoBulk d := by
  obtain ⟨l, rfl, he, D, hok, hd⟩ := row_in (k := 6) (en := edC) (ok := fun (y : VT.Ed) x => (I64 y.a ∧ I64 y.b ∧ I64 y.c ∧ I64 y.d) ∧ y.text.size + 1 ≤ Rows.uptoBulk x) Tryz.underlying40 (by kernel_rfl) (by decide) (fun _ => rfl) (fun fuel cs x hx => edit_in hx) h
  refine ⟨l, rfl, he, fun x hx => ?_, fun x hx => ?_, ?_⟩
  · obtain ⟨j, hj, rfl⟩ := List.getElem_of_mem hx
    exact (hok j hj).1
  · obtain ⟨j, hj, rfl⟩ := List.getElem_of_mem hx
    obtain ⟨r, rfl⟩ := hd (List.ne_nil_of_mem hx)
    have h1 := (hok j hj).2
    have h2 := (bulk_row (D := D) (n := l.length) (r := r)).1 j hj
    omega
  · by_cases h0 : l = []
    · subst h0; simp
    · obtain ⟨r, rfl⟩ := hd h0
      refine Nat.le_trans ?_ (bulk_row (D := D) (n := l.length) (r := r)).2
      have key : ∀ (l : List VT.Ed) (D : Nat → DataW H), (∀ j (h : j < l.length), 1 ≤ Rows.uptoBulk (D j)) → l.length ≤ Rows.uptoBulkAll ((List.range l.length).map D) := by
        intro l
        induction l with
        | nil => intro D _; simp
        | cons x l ih =>
          intro D h
          have h1 := ih (fun j => D (j + 1)) (fun j hj => h (j + 1) (by simpa using hj))
          have h2 := h 0 (by simp)
          rw [List.length_cons, List.range_succ_eq_map]
          simp only [List.map_cons, List.map_map, Rows.uptoBulkAll]
          have h3 : (List.range l.length).map (D ∘ Nat.succ) = (List.range l.length).map (fun j => D (j + 1)) := rfl
          rw [h3]
          omega
      exact key l D (fun j hj => by have := (hok j hj).2; omega)
end Go.Proofs.YthndgekjccclnaaGreatDoor.rowkit
