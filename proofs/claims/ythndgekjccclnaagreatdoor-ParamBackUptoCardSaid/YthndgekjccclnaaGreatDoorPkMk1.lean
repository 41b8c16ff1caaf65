/-
  Joined texts: NumRowArr.
-/
import Derived.Test.YthndgekjccclnaaGreatDoorPkRow
import Derived.WideKeyArr2
namespace Go.Proofs.YthndgekjccclnaaGreatDoor.rowkit
open Go.ChangeShapes Go.WideShapes Go.ChangeAt Go.RowKit Go.WideMaps
set_option linter.unusedVariables false
set_option linter.unusedSimpArgs false

theorem arrKey3 : ArrKey Tryz.prog 51 3 3 := ⟨by kernel_rfl, by kernel_rfl, by kernel_rfl, by kernel_rfl⟩
/-- Three numbers that came in. -/
theorem arr3_in {H : Type} {enc : TypeId × Value → H} {W : World} {xs : Array Value} {d : DataW H} {ps : List MemPlace}
    (h : DataW.Trod enc Tryz.prog W 0 (fun _ => true) true 51 (.agg xs) d ps) (hn : xs.size = 3) :
    ∃ a b c : Int, xs = #[.int .i64 a, .int .i64 b, .int .i64 c] ∧ (Lit.int .i64 a).wf = true ∧ (Lit.int .i64 b).wf = true ∧ (Lit.int .i64 c).wf = true := by
  obtain ⟨l⟩ := xs
  match l, hn with
  | [x, y, z], _ =>
    obtain ⟨fuel, hf⟩ := h
    have ht := arrKey3.hu
    have hce := arrKey3.one
    cases fuel with
    | zero => simp [DataW.trod] at hf
    | succ n =>
      unfold DataW.trod at hf
      rw [ht] at hf
      have r3 : List.range 3 = [0, 1, 2] := rfl
      simp [r3, hce, Value.cells] at hf
      cases h0 : DataW.trod enc Tryz.prog W 0 (fun _ => true) true n 3 [x] with
      | none => simp [h0] at hf
      | some y0 =>
        cases h1 : DataW.trod enc Tryz.prog W 0 (fun _ => true) true n 3 [y] with
        | none => simp [h0, h1] at hf
        | some y1 =>
          cases h2 : DataW.trod enc Tryz.prog W 0 (fun _ => true) true n 3 [z] with
          | none => simp [h0, h1, h2] at hf
          | some y2 =>
            obtain ⟨a, e0, _, w0⟩ := DataW.trod_int Tryz.underlying3 h0
            obtain ⟨b, e1, _, w1⟩ := DataW.trod_int Tryz.underlying3 h1
            obtain ⟨c, e2, _, w2⟩ := DataW.trod_int Tryz.underlying3 h2
            simp at e0 e1 e2
            subst e0 e1 e2
            exact ⟨a, b, c, rfl, w0, w1, w2⟩
end Go.Proofs.YthndgekjccclnaaGreatDoor.rowkit
