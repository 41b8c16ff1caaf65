/-
  Layer 28, the walks: beside a pool: two arrays of forty numbers.
-/
import Derived.Test.YtfploakafbnigaaGreatDoorCPoolWant
import Derived.ChangeKeysEq
import Derived.BigFrame
import Derived.Laws.Rows
namespace Go.Proofs.YtfploakafbnigaaGreatDoor
open Go.RowKit Val Pl
set_option linter.unusedVariables false
set_option linter.unusedSimpArgs false
/-- forty numbers -/
def arr (f : Nat → Nat) : Array Value := ((List.range 40).map (fun i => Value.int .i64 (f i))).toArray
theorem arr_get (f : Nat → Nat) {k : Nat} (hk : k < 40) : (arr f)[k]? = some (.int .i64 (f k)) := by
  unfold arr
  rw [List.getElem?_toArray, List.getElem?_map, List.getElem?_range hk]; rfl
theorem arr_size (f : Nat → Nat) : (arr f).size = 40 := by simp [arr]
theorem arr_up (f : Nat → Nat) (k : Nat) (v : Int) (hv : v = (f k : Int) + 1) : (arr f).setIfInBounds k (.int .i64 v) = arr (Pst.up f k) := by
  apply Array.ext_getElem?
  intro j
  rw [Array.getElem?_setIfInBounds]
  rcases Nat.lt_or_ge j 40 with hj | hj
  · rw [arr_get _ hj, arr_get _ hj]
    unfold Pst.up
    by_cases e : k = j
    · subst e; simp [arr_size, hj, hv]
    · rw [if_neg e, if_neg (fun e' => e e'.symm)]
  · rw [Array.getElem?_eq_none (by rw [arr_size]; exact hj), Array.getElem?_eq_none (by rw [arr_size]; exact hj)]
    simp [arr_size]; omega
theorem arr_ext {f g : Nat → Nat} (h : ∀ k, k < 40 → f k = g k) : arr f = arr g := by
  unfold arr
  congr 1
  exact List.map_congr_left (fun i hi => by rw [h i (List.mem_range.1 hi)])
theorem arr_zero : arr (fun _ => 0) = #[.int .i64 0, .int .i64 0, .int .i64 0, .int .i64 0, .int .i64 0, .int .i64 0, .int .i64 0, .int .i64 0, .int .i64 0, .int .i64 0, .int .i64 0, .int .i64 0, .int .i64 0, .int .i64 0, .int .i64 0, .int .i64 0, .int .i64 0, .int .i64 0, .int .i64 0, .int .i64 0, .int .i64 0, .int .i64 0, .int .i64 0, .int .i64 0, .int .i64 0, .int .i64 0, .int .i64 0, .int .i64 0, .int .i64 0, .int .i64 0, .int .i64 0, .int .i64 0, .int .i64 0, .int .i64 0, .int .i64 0, .int .i64 0, .int .i64 0, .int .i64 0, .int .i64 0, .int .i64 0] := by rfl
theorem eq_items (w : World) (d : Nat) (xs : Array Value) : ∀ (is : List Nat), (∀ i ∈ is, ∃ x, xs[i]? = some (.int .i64 x)) → (Op.eqItems (d + 1) 3 (Tryz.prog.cellsOf 3) xs xs is).run Tryz.prog w = .ok true w
  | [], _ => rfl
  | i :: is, h => by
    obtain ⟨x, hx⟩ := h i (List.mem_cons_self ..)
    have ih := eq_items w d xs is (fun j hj => h j (List.mem_cons_of_mem _ hj))
    have hc : Tryz.prog.cellsOf 3 = 1 := by kernel_rfl
    have hu := Tryz.underlying3
    rw [hc] at ih ⊢
    simp only [Op.eqItems, Sem.run_bind]
    have hp : (part 3 xs (i * 1)).run Tryz.prog w = .ok (.int .i64 x) w := by
      rw [Nat.mul_one]
      simp [part, hx]
    rw [hp]
    simp only [Result.andThen_ok, hp]
    have he : (Op.equalIn (d + 1) 3 (.int .i64 x) (.int .i64 x)).run Tryz.prog w = .ok true w := by
      simp [Op.equalIn, run_underlying hu]
    rw [he]
    simpa using ih
theorem eq_arr0 (f : Nat → Nat) (w : World) : (Op.equalIn 10000 60 (.agg (arr f)) (.agg (arr f))).run Tryz.prog w = .ok true w := by
  obtain ⟨j0, hj0, -, -, -⟩ := info_parts info28
  rw [run_equalIn_array w 9999 (arr f) (arr f) Tryz.underlying60 hj0, eq_items w 9998 (arr f) _ (fun i hi => ⟨_, arr_get f (List.mem_range.1 hi)⟩)]
theorem load_arr {ops : Array Oper} {rest : List Oper} {o : Oper} {a : Act} {w : World} {Q : Exit → Act → World → Prop} (hw : Region.wanted o (yielded ops a.tmps) = true) (x : Operand) (ho : o.op = .load 60 x) (g : Nat) (hx : a.eval x = .pointer (some ⟨g, 0, none⟩)) {f : Nat → Nat} (hg : BK w g 60 (arr f))
    (h : wpList Tryz.prog ops Q rest (a.put o.dst (.agg (arr f))) w) : wpList Tryz.prog ops Q (o :: rest) a w :=
  Go.BigFrame.wpList_want hw fun _ hK => wp_load_row 60 x ho g hx 60 (arr f) (0, 0) _ hg Tryz.underlying60 rfl (by rw [arr_size]; kernel_rfl) (hK _ _ h)
/-- an array is the same as itself -/
theorem eq_arr (f : Nat → Nat) (w : World) : (binOp .eql 60 (.agg (arr f)) (.agg (arr f))).run Tryz.prog w = .ok (.bool true) w := by
  obtain ⟨j0, hj0, -, -, -⟩ := info_parts info28
  rw [run_eql_struct, run_equalIn_array w 9999 (arr f) (arr f) Tryz.underlying60 hj0, eq_items w 9998 (arr f) _ (fun i hi => ⟨_, arr_get f (List.mem_range.1 hi)⟩)]
  rfl
theorem PP.new2 {α : Type} {enc : α → Value} {Tj TP TW : TypeId} {B pb : Nat} {K' : Nat → Prop} {s : Pst α} {w w' : World} (p : PP enc Tj TP TW B pb (fun _ => False) s w) (hb : Below w.heap.size w w') (hK : ∀ b, K' b → w.heap.size ≤ b ∧ b < w'.heap.size) : PP enc Tj TP TW B pb K' s w' := by
  obtain ⟨h, e, p, k⟩ := p
  exact ⟨h, e, p.on hb, fun b hb' => ⟨fun hS => by have := p.S_lt hS; have := (hK b hb').1; omega, (hK b hb').2⟩⟩
/-- what is to be kept: both arrays -/
def KA (gl ge : Nat) (b : Nat) : Prop := b = gl ∨ b = ge
end Go.Proofs.YtfploakafbnigaaGreatDoor
