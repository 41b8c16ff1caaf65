/-
  Layer 12, the walks: worlds behind a function's boxes; messages in memory.
-/
import Derived.Test.YtfploakafbnigaaGreatDoorCPkMkC
import Derived.Test.YtfploakafbnigaaGreatDoorCRpcVal
import Derived.Test.YtfploakafbnigaaGreatDoorCPkValB
import Derived.Test.YtfploakafbnigaaGreatDoorCRpcSpec
import Derived.Laws.Tables
import Derived.Laws.Rows
import Derived.Laws.CopyOwn
import Derived.Laws.CopyRow
import Derived.OrdersHeld
import Derived.Test.YtfploakafbnigaaGreatDoorCRegKit
namespace Go.Proofs.YtfploakafbnigaaGreatDoor
open Go.RowKit Val
set_option linter.unusedVariables false
set_option linter.unusedSimpArgs false
theorem at1 {P : Program} {f : FuncId} {args : Array Value} {w : World} {x1 : Array Value} {T1 : TypeId} {Q : Ending → World → Prop}
    (h : ∀ W, BK W w.heap.size T1 x1 → Below w.heap.size w W → w.heap.size + 1 ≤ W.heap.size → Calls P f args W Q) : Calls P f args (w.alloc (.cells x1 T1)) Q :=
  h _ (BK.new _ _ _) (made_end' w _) (by simp)
theorem at2 {P : Program} {f : FuncId} {args : Array Value} {w : World} {x1 x2 : Array Value} {T1 T2 : TypeId} {Q : Ending → World → Prop}
    (h : ∀ W, BK W w.heap.size T1 x1 → BK W (w.heap.size + 1) T2 x2 → Below w.heap.size w W → w.heap.size + 2 ≤ W.heap.size → Calls P f args W Q) : Calls P f args ((w.alloc (.cells x1 T1)).alloc (.cells x2 T2)) Q :=
  h _ (al2_0 w _ _) (al2_1 w _ _) (al2_below w _ _) (by simp)
/-- blocks, each known whole -/
structure Blk where
  g : Nat
  T : TypeId
  cs : Array Value
def Blks : List Blk → World → Prop
  | [], _ => True
  | b :: r, w => BK w b.g b.T b.cs ∧ Blks r w
theorem Blks.on {L : List Blk} {w w' : World} (h : Blks L w) (hb : Below w.heap.size w w') : Blks L w' := by
  induction L with
  | nil => trivial
  | cons b r ih => exact ⟨h.1.on hb, ih h.2⟩
theorem Blks.one {g : Nat} {T : TypeId} {cs : Array Value} {w : World} (h : BK w g T cs) : Blks [⟨g, T, cs⟩] w := ⟨h, trivial⟩
theorem Blks.cons {g : Nat} {T : TypeId} {cs : Array Value} {L : List Blk} {w : World} (h : BK w g T cs) (r : Blks L w) : Blks (⟨g, T, cs⟩ :: L) w := ⟨h, r⟩
theorem Blks.hd {g : Nat} {T : TypeId} {cs : Array Value} {L : List Blk} {w : World} (h : Blks (⟨g, T, cs⟩ :: L) w) : BK w g T cs := h.1
/-- a value in memory, read as its parts -/
theorem VLV.parts {z : Zone} {t : VT} {w : World} {v : Value} (h : VLV z t w v) : ∃ A n cap A' n' cap', v = .agg #[.int .i64 t.kind, .bool t.is, .string t.text, .slice A n cap, .slice A' n' cap'] := VAL.parts h
/-- a value in a zone, whose list may be written -/
def VLF (z : Zone) (t : VT) (w : World) (v : Value) : Prop := VLV z t w v ∧ NF w v
theorem VLF.up {z : Zone} {t : VT} {w w' : World} {v : Value} (h : VLF z t w v) (hb : Below w.heap.size w w') : VLF z t w' v := ⟨h.1.up hb, NF.same h.2 h.1 (below_same hb (z.lt w))⟩
theorem VLF.parts {z : Zone} {t : VT} {w : World} {v : Value} (h : VLF z t w v) : ∃ A n cap A' n' cap', v = .agg #[.int .i64 t.kind, .bool t.is, .string t.text, .slice A n cap, .slice A' n' cap'] := VAL.parts h.1
/-- a message in memory; what is told of its values -/
def MSX (R : VT → World → Value → Prop) (m : MT) (w : World) (v : Value) : Prop := ∃ i0 i1 i2 i3 i4 p0 p1 p2 p3 p4 r0 r1 r2 r3 r4, v = .agg #[.int .i64 m.kind, i0, i1, i2, i3, i4, .string m.method, .bool m.has, p0, p1, p2, p3, p4, r0, r1, r2, r3, r4, .int .i64 m.code, .string m.text] ∧
  R m.id w (.agg #[i0, i1, i2, i3, i4]) ∧ R m.params w (.agg #[p0, p1, p2, p3, p4]) ∧ R m.result w (.agg #[r0, r1, r2, r3, r4])
def MSV (z : Zone) : MT → World → Value → Prop := MSX (VLV z)
def MSF (z : Zone) : MT → World → Value → Prop := MSX (VLF z)
theorem MSV.up {z : Zone} {m : MT} {w w' : World} {v : Value} (h : MSV z m w v) (hb : Below w.heap.size w w') : MSV z m w' v := by
  obtain ⟨i0, i1, i2, i3, i4, p0, p1, p2, p3, p4, r0, r1, r2, r3, r4, e, h1, h2, h3⟩ := h
  exact ⟨i0, i1, i2, i3, i4, p0, p1, p2, p3, p4, r0, r1, r2, r3, r4, e, h1.up hb, h2.up hb, h3.up hb⟩
theorem MSF.up {z : Zone} {m : MT} {w w' : World} {v : Value} (h : MSF z m w v) (hb : Below w.heap.size w w') : MSF z m w' v := by
  obtain ⟨i0, i1, i2, i3, i4, p0, p1, p2, p3, p4, r0, r1, r2, r3, r4, e, h1, h2, h3⟩ := h
  exact ⟨i0, i1, i2, i3, i4, p0, p1, p2, p3, p4, r0, r1, r2, r3, r4, e, h1.up hb, h2.up hb, h3.up hb⟩
theorem MSF.any {z : Zone} {m : MT} {w : World} {v : Value} (h : MSF z m w v) : MSV z m w v := by
  obtain ⟨i0, i1, i2, i3, i4, p0, p1, p2, p3, p4, r0, r1, r2, r3, r4, e, h1, h2, h3⟩ := h
  exact ⟨i0, i1, i2, i3, i4, p0, p1, p2, p3, p4, r0, r1, r2, r3, r4, e, h1.1, h2.1, h3.1⟩
theorem NF.mono {w w' : World} {v : Value} (h : NF w v) (hw : w'.heap = w.heap) : NF w' v := by
  intro v0 v1 v2 A n c v4 e
  rcases h v0 v1 v2 A n c v4 e with h0 | ⟨b, off, rfl, hf⟩
  · exact .inl h0
  · exact .inr ⟨b, off, rfl, fun o => (World.frozen?_of_block (w := w) (a := ⟨b, o, none⟩) (by rw [hw])).trans (hf o)⟩
/-- behind all that is written anew into one block -/
theorem row_same {S : Nat → Prop} (w : World) (g : Nat) (cs : Array Value) (hS : ∀ b, S b → b ≠ g) : Same S w (w.setRow g cs) := fun b hb => setRow_other w g b cs (hS b hb)
theorem BK.row {w : World} {g : Nat} {T : TypeId} {old : Array Value} (h : BK w g T old) (cs : Array Value) : BK (w.setRow g cs) g T cs := setRow_heap w g old cs T (0, 0) h
theorem VLF.row {B : Nat} {t : VT} {w : World} {v : Value} (h : VLF (zNew B) t w v) {g : Nat} (hg : g < B) (cs : Array Value) : VLF (zNew B) t (w.setRow g cs) v := by
  have hs : Same ((zNew B).S w) w (w.setRow g cs) := row_same w g cs (fun b hb => by have := hb.1; omega)
  refine ⟨VAL.mono (fun b hb => ⟨hb.1, ?_⟩) (VAL.same hs h.1), NF.same h.2 h.1 hs⟩
  rw [setRow_size]; exact hb.2
theorem VLV.row {B : Nat} {t : VT} {w : World} {v : Value} (h : VLV (zNew B) t w v) {g : Nat} (hg : g < B) (cs : Array Value) : VLV (zNew B) t (w.setRow g cs) v := by
  have hs : Same ((zNew B).S w) w (w.setRow g cs) := row_same w g cs (fun b hb => by have := hb.1; omega)
  exact VAL.mono (fun b hb => ⟨hb.1, by rw [setRow_size]; exact hb.2⟩) (VAL.same hs h)
/-- A store into a block that is known whole: what it holds then is said outright. -/
theorem run_store_fld {P : Program} {w : World} {g i : Nat} {T : TypeId} {old : Array Value} (new : Array Value) (ty : TypeId) (v : Value) (us : List Value) (hv : v.cells.toList = us) (hg : BK w g T old) (hi : (P.info? ty).map (·.size) = some us.length)
    (hfit : i + us.length ≤ old.size) (h1 : ∀ q ∈ us, q.oneCell' = true) (hnew : old.toList.take i ++ us ++ old.toList.drop (i + us.length) = new.toList) : (Instr.storeAt ty (.pointer (some ⟨g, i, none⟩)) v).run P w = .ok () (w.setRow g new) := by
  obtain ⟨inf, hinf, hsz⟩ := Option.map_eq_some_iff.1 hi
  have hc : v.cells.size = inf.size := by rw [hsz, ← hv, Array.length_toList]
  have hst := run_storeCells_at P g i T us 0 old w hg (by simpa using hfit) h1
  simp only [Nat.add_zero] at hst
  rw [hnew] at hst
  simp [Instr.storeAt, Instr.sureAddr, storeVar, sizeOf, typeInfo, hinf, hc, hv, hst]
theorem row_but (w : World) (g : Nat) (cs : Array Value) : But g w (w.setRow g cs) := ⟨rfl, rfl, rfl, Nat.le_of_eq (setRow_size w g cs).symm, fun k _ hk => setRow_other w g k cs hk⟩
theorem store_fld {P : Program} {ops : Array Oper} {rest : List Oper} {o : Oper} {a : Act} {w : World} {Q : Exit → Act → World → Prop} (hgd : o.guard = none) (hd : o.dst = none) (ty : TypeId) (x y : Operand) (ho : o.op = .store ty x y) (g i : Nat) (v : Value) (us : List Value) (hx : a.eval x = .pointer (some ⟨g, i, none⟩)) (hy : a.eval y = v) (hv : v.cells.toList = us) {T : TypeId} {old : Array Value} (new : Array Value)
    (hg : BK w g T old) (hi : (P.info? ty).map (·.size) = some us.length) (hfit : i + us.length ≤ old.size) (h1 : ∀ q ∈ us, q.oneCell' = true) (hnew : old.toList.take i ++ us ++ old.toList.drop (i + us.length) = new.toList)
    (h : ∀ W, BK W g T new → But g w W → W.heap.size = w.heap.size → wpList P ops Q rest a W) : wpList P ops Q (o :: rest) a w := by
  refine wpList_plain hgd fun K hK => ?_
  unfold Oper.wp execOp
  simp only [ho, hx, hy, Sem.run_bind, run_store_fld new ty v us hv hg hi hfit h1 hnew, Result.andThen_ok]
  show K (a.put o.dst undef) _
  rw [hd]
  exact hK _ _ (h _ (hg.row new) (row_but w g new) (setRow_size w g new))
/-- what carries facts over such a store -/
theorem VLF.but {B : Nat} {t : VT} {w W : World} {v : Value} {g : Nat} (h : VLF (zNew B) t w v) (hb : But g w W) (hg : g < B) : VLF (zNew B) t W v := by
  have hs : Same ((zNew B).S w) w W := hb.same (fun b hb' => ⟨hb'.2, by have := hb'.1; omega⟩)
  exact ⟨VAL.mono (fun b hb' => ⟨hb'.1, Nat.lt_of_lt_of_le hb'.2 hb.size⟩) (VAL.same hs h.1), NF.same h.2 h.1 hs⟩
theorem VLV.but {B : Nat} {t : VT} {w W : World} {v : Value} {g : Nat} (h : VLV (zNew B) t w v) (hb : But g w W) (hg : g < B) : VLV (zNew B) t W v :=
  VAL.mono (fun b hb' => ⟨hb'.1, Nat.lt_of_lt_of_le hb'.2 hb.size⟩) (VAL.same (hb.same (fun b hb' => ⟨hb'.2, by have := hb'.1; omega⟩)) h)
/-- what was there when there were n blocks -/
def zLt (n : Nat) : Zone where
  S := fun w b => b < n ∧ b < w.heap.size
  lt := fun _ _ h => h.2
  up := fun _ _ _ h hb => ⟨h.1, Nat.lt_of_lt_of_le h.2 hb.size⟩
theorem VLV.old {z : Zone} {t : VT} {w : World} {v : Value} (h : VLV z t w v) : VLV (zLt w.heap.size) t w v := VAL.mono (fun b hb => ⟨z.lt w b hb, z.lt w b hb⟩) h
theorem results_row1 {P : Program} {fn : Func} {p : Tmp} {ty : TypeId} (h : fn.results = #[.cell p ty]) (tmps : Array Value) (w : World) (g : Nat) (t : TypeId) (cs : Array Value) (d : TypeDesc)
    (hp : tmps.getD p undef = .pointer (some ⟨g, 0, none⟩)) (hg : BK w g t cs)
    (hu : P.underlying ty = some d) (hd : (match d with | .struct _ | .array _ _ => true | _ => false) = true) (hi : (P.info? ty).map (·.size) = some cs.size) :
    (results fn tmps).run P w = .ok (.agg cs) w := results_cell_row h tmps w g t cs (0, 0) d hp hg hu hd hi
theorem VLF.le {B B' : Nat} {t : VT} {w : World} {v : Value} (h : VLF (zNew B) t w v) (hB : B' ≤ B) : VLF (zNew B') t w v := ⟨VAL.mono (fun b hb => ⟨Nat.le_trans hB hb.1, hb.2⟩) h.1, h.2⟩
theorem VAL.z {w w' : World} {t : VT} {v : Value} (h : VAL w' (New w w') t v) {B : Nat} (hB : B ≤ w.heap.size) : VLV (zNew B) t w' v := VAL.mono (fun b hb => ⟨Nat.le_trans hB hb.1, hb.2⟩) h
/-- a member that was got, as a box holds it -/
theorem bne_t {a b : Int} (h : ¬ a = b) : (a != b) = true := by rw [bne_iff_ne]; exact h
theorem beq_f {a b : Int} (h : ¬ a = b) : (a == b) = false := by rw [beq_eq_false_iff_ne]; exact h
end Go.Proofs.YtfploakafbnigaaGreatDoor
