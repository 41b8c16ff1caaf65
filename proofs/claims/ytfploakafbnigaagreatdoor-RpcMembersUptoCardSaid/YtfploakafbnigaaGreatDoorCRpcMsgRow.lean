/-
  Layer 12, the rows: how an api.Message that came in reads.
-/
import Derived.Test.YtfploakafbnigaaGreatDoorCPkRow
import Derived.Test.YtfploakafbnigaaGreatDoorCRpcKit
namespace Go.Proofs.YtfploakafbnigaaGreatDoor.rowkit
open Go.ChangeShapes Go.WideShapes Go.ChangeAt Go.RowKit Go.Deep Val
set_option linter.unusedVariables false
set_option linter.unusedSimpArgs false
theorem list8 {α : Type} {l : List α} (h : l.length = 8) : ∃ a b c d e f g i, l = [a, b, c, d, e, f, g, i] := by
  match l, h with
  | [a, b, c, d, e, f, g, i], _ => exact ⟨a, b, c, d, e, f, g, i, rfl⟩
theorem list20 {α : Type} {l : List α} (h : l.length = 20) : ∃ a0 a1 a2 a3 a4 a5 a6 a7 a8 a9 b0 b1 b2 b3 b4 b5 b6 b7 b8 b9, l = [a0, a1, a2, a3, a4, a5, a6, a7, a8, a9, b0, b1, b2, b3, b4, b5, b6, b7, b8, b9] := by
  match l, h with
  | [a0, a1, a2, a3, a4, a5, a6, a7, a8, a9, b0, b1, b2, b3, b4, b5, b6, b7, b8, b9], _ => exact ⟨a0, a1, a2, a3, a4, a5, a6, a7, a8, a9, b0, b1, b2, b3, b4, b5, b6, b7, b8, b9, rfl⟩
set_option maxRecDepth 100000 in
set_option maxHeartbeats 1000000 in
theorem msg_in {H : Type} {enc : TypeId × Value → H} {W : World} {fuel : Nat} {cs : List Value} {x : DataW H × List MemPlace} (h : DataW.trod enc Tryz.prog W 0 (fun _ => true) true fuel 46 cs = some x) :
    ∃ m : MT, MSV (zLt W.heap.size) m W (.agg cs.toArray) ∧ m.bulk ≤ Rows.uptoBulk x.1 ∧ I64 m.code := by
  have ci : Tryz.prog.cellsOf 3 = 1 := by kernel_rfl
  have cb : Tryz.prog.cellsOf 4 = 1 := by kernel_rfl
  have cs_ : Tryz.prog.cellsOf 9 = 1 := by kernel_rfl
  have cv : Tryz.prog.cellsOf 25 = 5 := by kernel_rfl
  obtain ⟨xs, n, -, rfl, hl, hlen, hf⟩ := DataW.trod_struct Tryz.underlying46 h
  obtain ⟨v0, i0, i1, i2, i3, i4, v6, v7, p0, p1, p2, p3, p4, r0, r1, r2, r3, r4, v18, v19, rfl⟩ := list20 (hl.trans (by kernel_rfl))
  obtain ⟨y0, y1, y2, y3, y4, y5, y6, y7, rfl⟩ := list8 (l := xs) (hlen.trans rfl)
  obtain ⟨k, e0, ex0, hk⟩ := DataW.trod_int Tryz.underlying3 (hf 0 _ rfl)
  have h1 := hf 1 _ rfl
  obtain ⟨me, e2, ex2, hme⟩ := DataW.trod_string Tryz.underlying9 (hf 2 _ rfl)
  obtain ⟨ha, e3, ex3⟩ := DataW.trod_bool Tryz.underlying4 (hf 3 _ rfl)
  have h4 := hf 4 _ rfl
  have h5 := hf 5 _ rfl
  obtain ⟨co, e6, ex6, hco⟩ := DataW.trod_int Tryz.underlying3 (hf 6 _ rfl)
  obtain ⟨te, e7, ex7, hte⟩ := DataW.trod_string Tryz.underlying9 (hf 7 _ rfl)
  replace e0 : v0 = .int .i64 k := by simpa [ci] using e0
  replace e2 : v6 = .string me := by simpa [cs_] using e2
  replace e3 : v7 = .bool ha := by simpa [cb] using e3
  replace e6 : v18 = .int .i64 co := by simpa [ci] using e6
  replace e7 : v19 = .string te := by simpa [cs_] using e7
  subst e0 e2 e3 e6 e7
  obtain ⟨ti, a0, a1, a2, a3, a4, ea, ha1, ha2⟩ := value_in _ _ _ _ (Nat.le_refl _) h1
  obtain ⟨tp, b0, b1, b2, b3, b4, eb, hb1, hb2⟩ := value_in _ _ _ _ (Nat.le_refl _) h4
  obtain ⟨tr, c0, c1, c2, c3, c4, ec, hc1, hc2⟩ := value_in _ _ _ _ (Nat.le_refl _) h5
  simp [cv] at ea eb ec
  obtain ⟨rfl, rfl, rfl, rfl, rfl⟩ := ea
  obtain ⟨rfl, rfl, rfl, rfl, rfl⟩ := eb
  obtain ⟨rfl, rfl, rfl, rfl, rfl⟩ := ec
  refine ⟨⟨k, ti, me, ha, tp, tr, co, te⟩, ⟨_, _, _, _, _, _, _, _, _, _, _, _, _, _, _, rfl, VAL.mono (fun b hb => ⟨hb, hb⟩) ha1, VAL.mono (fun b hb => ⟨hb, hb⟩) hb1, VAL.mono (fun b hb => ⟨hb, hb⟩) hc1⟩, ?_, bounds_i64 hco⟩
  have z1 : me.data.toList.length = me.size := Array.length_toList
  have z2 : te.data.toList.length = te.size := Array.length_toList
  unfold MT.bulk
  dsimp only at *
  simp only [List.map_cons, List.map_nil, Rows.uptoBulk, Rows.uptoBulkAll, ex2, ex7]
  omega
theorem msg_at {H : Type} {enc : TypeId × Value → H} {W : World} {xs : Array Value} {d : DataW H} {ps : List MemPlace}
    (h : DataW.Trod enc Tryz.prog W 0 (fun _ => true) true 46 (.agg xs) d ps) : ∃ m : MT, MSV (zLt W.heap.size) m W (.agg xs) ∧ m.bulk ≤ Rows.uptoBulk d ∧ I64 m.code := by
  obtain ⟨fuel, hf⟩ := h
  obtain ⟨m, h1, h2⟩ := msg_in hf
  have e : (Value.agg xs).cells.toList.toArray = xs := by simp [Value.cells]
  rw [e] at h1
  exact ⟨m, h1, h2⟩
end Go.Proofs.YtfploakafbnigaaGreatDoor.rowkit
