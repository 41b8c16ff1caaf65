/-
  For the rows: how an argument of the type [2]api.Value reads: two trees lie in memory.
-/
import Derived.Test.YtfploakafbnigaaGreatDoorPkRow
import Derived.Test.YtfploakafbnigaaGreatDoorRpcVal
namespace Go.Proofs.YtfploakafbnigaaGreatDoor.rowkit
open Go.ChangeShapes Go.WideShapes Go.ChangeAt Go.RowKit Go.Deep Val
set_option linter.unusedVariables false
set_option linter.unusedSimpArgs false
set_option linter.constructorNameAsVariable false
set_option maxRecDepth 100000 in
theorem okWide_arrV {W : World} {r : Reach} {b0 : Nat} {v : Value} (h : Value.okWide Tryz.prog W r b0 51 v) : ∃ xs : Array Value, v = .agg xs := by
  simp only [Value.okWide, Tryz.underlying51] at h
  obtain ⟨cs, h1, -⟩ := h
  exact ⟨cs, h1⟩
theorem list10 {α : Type} {l : List α} (h : l.length = 10) : ∃ a b c d e f g i j k, l = [a, b, c, d, e, f, g, i, j, k] := by
  match l, h with
  | [a, b, c, d, e, f, g, i, j, k], _ => exact ⟨a, b, c, d, e, f, g, i, j, k, rfl⟩
set_option maxRecDepth 100000 in
theorem arr2v_in {H : Type} {enc : TypeId × Value → H} {W : World} {xs : Array Value} {d : DataW H} {ps : List MemPlace}
    (h : DataW.Trod enc Tryz.prog W 0 (fun _ => true) true 51 (.agg xs) d ps) :
    ∃ (t u : VT) (ka : Int) (ba : Bool) (xa : ByteArray) (Aa : Option Addr) (na ca : Nat) (Ba : Option Addr) (ma da : Nat) (kb : Int) (bb : Bool) (xb : ByteArray) (Ab : Option Addr) (nb cb : Nat) (Bb : Option Addr) (mb db : Nat),
      xs = #[.int .i64 ka, .bool ba, .string xa, .slice Aa na ca, .slice Ba ma da, .int .i64 kb, .bool bb, .string xb, .slice Ab nb cb, .slice Bb mb db] ∧
      VAL W (fun b => b < W.heap.size) t (.agg #[.int .i64 ka, .bool ba, .string xa, .slice Aa na ca, .slice Ba ma da]) ∧ VAL W (fun b => b < W.heap.size) u (.agg #[.int .i64 kb, .bool bb, .string xb, .slice Ab nb cb, .slice Bb mb db]) ∧ t.bulk + u.bulk ≤ Rows.uptoBulk d := by
  obtain ⟨fuel, hf⟩ := h
  obtain ⟨ys, m, rfl, e, hl, hlen, hg⟩ := DataW.trod_array Tryz.underlying51 hf
  have hl2 : (Value.cells (.agg xs)).toList.length = 10 := hl.trans (by kernel_rfl)
  obtain ⟨v0, v1, v2, v3, v4, u0, u1, u2, u3, u4, hx⟩ := list10 hl2
  have hc5 : Tryz.prog.cellsOf 25 = 5 := by kernel_rfl
  have e2 : xs = #[v0, v1, v2, v3, v4, u0, u1, u2, u3, u4] := by
    apply Array.ext'
    simpa [Value.cells] using hx
  subst e2
  match ys, hlen with
  | [y0, y1], _ =>
    have g0 := hg 0 (by omega)
    have g1 := hg 1 (by omega)
    rw [hc5] at g0 g1
    rw [hx] at g0 g1
    obtain ⟨t, a0, a1, a2, a3, a4, ea, ha, hta⟩ := value_in _ m _ _ (Nat.le_refl _) g0
    obtain ⟨u, b0, b1, b2, b3, b4, eb, hb, hub⟩ := value_in _ m _ _ (Nat.le_refl _) g1
    simp at ea eb
    obtain ⟨rfl, rfl, rfl, rfl, rfl⟩ := ea
    obtain ⟨rfl, rfl, rfl, rfl, rfl⟩ := eb
    obtain ⟨ka, ba, xa, Aa, na, ca, Ba, ma, da, rfl, rfl, rfl, rfl, rfl⟩ := VAL.shape5 ha
    obtain ⟨kb, bb, xb, Ab, nb, cb, Bb, mb, db, rfl, rfl, rfl, rfl, rfl⟩ := VAL.shape5 hb
    refine ⟨t, u, ka, ba, xa, Aa, na, ca, Ba, ma, da, kb, bb, xb, Ab, nb, cb, Bb, mb, db, rfl, ha, hb, ?_⟩
    injection e with e _
    subst e
    simp only [List.map_cons, List.map_nil, Rows.uptoBulk, Rows.uptoBulkAll]
    omega
end Go.Proofs.YtfploakafbnigaaGreatDoor.rowkit
