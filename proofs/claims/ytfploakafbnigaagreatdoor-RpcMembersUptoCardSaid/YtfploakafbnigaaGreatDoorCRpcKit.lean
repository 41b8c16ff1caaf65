/-
  Layer 12, the walks: worlds behind a function's boxes; messages in memory.
-/
import Derived.Test.YtfploakafbnigaaGreatDoorCPkMkD
import Derived.Test.YtfploakafbnigaaGreatDoorCRpcEq
import Derived.Test.YtfploakafbnigaaGreatDoorCRpcSpec
import Derived.Laws.Tables
import Derived.Laws.Rows
import Derived.Laws.CopyOwn
import Derived.Laws.CopyRow
import Derived.OrdersHeld
import Derived.Test.YtfploakafbnigaaGreatDoorCRegKit
namespace Go.Proofs.YtfploakafbnigaaGreatDoor
open Go.RowKit Val
set_option linter.unusedVariables false
set_option linter.unusedSimpArgs false
theorem at1 {P : Program} {f : FuncId} {args : Array Value} {w : World} {x1 : Array Value} {T1 : TypeId} {Q : Ending → World → Prop}
    (h : ∀ W, BK W w.heap.size T1 x1 → Below w.heap.size w W → w.heap.size + 1 ≤ W.heap.size → Calls P f args W Q) : Calls P f args (w.alloc (.cells x1 T1)) Q :=
  h _ (BK.new _ _ _) (made_end' w _) (by simp)
theorem at2 {P : Program} {f : FuncId} {args : Array Value} {w : World} {x1 x2 : Array Value} {T1 T2 : TypeId} {Q : Ending → World → Prop}
    (h : ∀ W, BK W w.heap.size T1 x1 → BK W (w.heap.size + 1) T2 x2 → Below w.heap.size w W → w.heap.size + 2 ≤ W.heap.size → Calls P f args W Q) : Calls P f args ((w.alloc (.cells x1 T1)).alloc (.cells x2 T2)) Q :=
  h _ (al2_0 w _ _) (al2_1 w _ _) (al2_below w _ _) (by simp)
/-- blocks, each known whole -/
structure Blk where
  g : Nat
  T : TypeId
  cs : Array Value
def Blks : List Blk → World → Prop
  | [], _ => True
  | b :: r, w => BK w b.g b.T b.cs ∧ Blks r w
theorem Blks.on {L : List Blk} {w w' : World} (h : Blks L w) (hb : Below w.heap.size w w') : Blks L w' := by
  induction L with
  | nil => trivial
  | cons b r ih => exact ⟨h.1.on hb, ih h.2⟩
theorem Blks.one {g : Nat} {T : TypeId} {cs : Array Value} {w : World} (h : BK w g T cs) : Blks [⟨g, T, cs⟩] w := ⟨h, trivial⟩
theorem Blks.cons {g : Nat} {T : TypeId} {cs : Array Value} {L : List Blk} {w : World} (h : BK w g T cs) (r : Blks L w) : Blks (⟨g, T, cs⟩ :: L) w := ⟨h, r⟩
theorem Blks.hd {g : Nat} {T : TypeId} {cs : Array Value} {L : List Blk} {w : World} (h : Blks (⟨g, T, cs⟩ :: L) w) : BK w g T cs := h.1
theorem Blks.tl {b : Blk} {L : List Blk} {w : World} (h : Blks (b :: L) w) : Blks L w := h.2
/-- a value in memory, read as its parts -/
theorem VLV.parts {z : Zone} {t : VT} {w : World} {v : Value} (h : VLV z t w v) : ∃ A n cap A' n' cap', v = .agg #[.int .i64 t.kind, .bool t.is, .string t.text, .slice A n cap, .slice A' n' cap'] := VAL.parts h
/-- a value in a zone, whose list may be written -/
def VLF (z : Zone) (t : VT) (w : World) (v : Value) : Prop := VLV z t w v ∧ NF w v
theorem VLF.up {z : Zone} {t : VT} {w w' : World} {v : Value} (h : VLF z t w v) (hb : Below w.heap.size w w') : VLF z t w' v := ⟨h.1.up hb, NF.same h.2 h.1 (below_same hb (z.lt w))⟩
theorem VLF.parts {z : Zone} {t : VT} {w : World} {v : Value} (h : VLF z t w v) : ∃ A n cap A' n' cap', v = .agg #[.int .i64 t.kind, .bool t.is, .string t.text, .slice A n cap, .slice A' n' cap'] := VAL.parts h.1
/-- a message in memory; what is told of its values -/
def MSX (R : VT → World → Value → Prop) (m : MT) (w : World) (v : Value) : Prop := ∃ i0 i1 i2 i3 i4 p0 p1 p2 p3 p4 r0 r1 r2 r3 r4, v = .agg #[.int .i64 m.kind, i0, i1, i2, i3, i4, .string m.method, .bool m.has, p0, p1, p2, p3, p4, r0, r1, r2, r3, r4, .int .i64 m.code, .string m.text] ∧
  R m.id w (.agg #[i0, i1, i2, i3, i4]) ∧ R m.params w (.agg #[p0, p1, p2, p3, p4]) ∧ R m.result w (.agg #[r0, r1, r2, r3, r4])
def MSV (z : Zone) : MT → World → Value → Prop := MSX (VLV z)
def MSF (z : Zone) : MT → World → Value → Prop := MSX (VLF z)
theorem MSV.up {z : Zone} {m : MT} {w w' : World} {v : Value} (h : MSV z m w v) (hb : Below w.heap.size w w') : MSV z m w' v := by
  obtain ⟨i0, i1, i2, i3, i4, p0, p1, p2, p3, p4, r0, r1, r2, r3, r4, e, h1, h2, h3⟩ := h
  exact ⟨i0, i1, i2, i3, i4, p0, p1, p2, p3, p4, r0, r1, r2, r3, r4, e, h1.up hb, h2.up hb, h3.up hb⟩
theorem MSF.up {z : Zone} {m : MT} {w w' : World} {v : Value} (h : MSF z m w v) (hb : Below w.heap.size w w') : MSF z m w' v := by
  obtain ⟨i0, i1, i2, i3, i4, p0, p1, p2, p3, p4, r0, r1, r2, r3, r4, e, h1, h2, h3⟩ := h
  exact ⟨i0, i1, i2, i3, i4, p0, p1, p2, p3, p4, r0, r1, r2, r3, r4, e, h1.up hb, h2.up hb, h3.up hb⟩
theorem MSF.any {z : Zone} {m : MT} {w : World} {v : Value} (h : MSF z m w v) : MSV z m w v := by
  obtain ⟨i0, i1, i2, i3, i4, p0, p1, p2, p3, p4, r0, r1, r2, r3, r4, e, h1, h2, h3⟩ := h
  exact ⟨i0, i1, i2, i3, i4, p0, p1, p2, p3, p4, r0, r1, r2, r3, r4, e, h1.1, h2.1, h3.1⟩
/-- a message is made, out of what is new -/
def MkM (m : MT) (w : World) (e : Ending) (w' : World) : Prop := ∃ v, e = .returned v ∧ MSF (zNew w.heap.size) m w' v ∧ Below w.heap.size w w'
/-- a message and a bool, or an error's number -/
def MkM2 (m : MT) (x : Value) (w : World) (e : Ending) (w' : World) : Prop := ∃ v, e = .returned (.tuple #[v, x]) ∧ MSF (zNew w.heap.size) m w' v ∧ Below w.heap.size w w'
theorem NF.mono {w w' : World} {v : Value} (h : NF w v) (hw : w'.heap = w.heap) : NF w' v := by
  intro v0 v1 v2 A n c v4 e
  rcases h v0 v1 v2 A n c v4 e with h0 | ⟨b, off, rfl, hf⟩
  · exact .inl h0
  · exact .inr ⟨b, off, rfl, fun o => (World.frozen?_of_block (w := w) (a := ⟨b, o, none⟩) (by rw [hw])).trans (hf o)⟩
/-- behind all that is written anew into one block -/
theorem row_same {S : Nat → Prop} (w : World) (g : Nat) (cs : Array Value) (hS : ∀ b, S b → b ≠ g) : Same S w (w.setRow g cs) := fun b hb => setRow_other w g b cs (hS b hb)
theorem BK.row {w : World} {g : Nat} {T : TypeId} {old : Array Value} (h : BK w g T old) (cs : Array Value) : BK (w.setRow g cs) g T cs := setRow_heap w g old cs T (0, 0) h
theorem VLF.row {B : Nat} {t : VT} {w : World} {v : Value} (h : VLF (zNew B) t w v) {g : Nat} (hg : g < B) (cs : Array Value) : VLF (zNew B) t (w.setRow g cs) v := by
  have hs : Same ((zNew B).S w) w (w.setRow g cs) := row_same w g cs (fun b hb => by have := hb.1; omega)
  refine ⟨VAL.mono (fun b hb => ⟨hb.1, ?_⟩) (VAL.same hs h.1), NF.same h.2 h.1 hs⟩
  rw [setRow_size]; exact hb.2
theorem VLV.row {B : Nat} {t : VT} {w : World} {v : Value} (h : VLV (zNew B) t w v) {g : Nat} (hg : g < B) (cs : Array Value) : VLV (zNew B) t (w.setRow g cs) v := by
  have hs : Same ((zNew B).S w) w (w.setRow g cs) := row_same w g cs (fun b hb => by have := hb.1; omega)
  exact VAL.mono (fun b hb => ⟨hb.1, by rw [setRow_size]; exact hb.2⟩) (VAL.same hs h)
/-- A store into a block that is known whole: what it holds then is said outright. -/
theorem run_store_fld {P : Program} {w : World} {g i : Nat} {T : TypeId} {old : Array Value} (new : Array Value) (ty : TypeId) (v : Value) (us : List Value) (hv : v.cells.toList = us) (hg : BK w g T old) (hi : (P.info? ty).map (·.size) = some us.length)
    (hfit : i + us.length ≤ old.size) (h1 : ∀ q ∈ us, q.oneCell' = true) (hnew : old.toList.take i ++ us ++ old.toList.drop (i + us.length) = new.toList) : (Instr.storeAt ty (.pointer (some ⟨g, i, none⟩)) v).run P w = .ok () (w.setRow g new) := by
  obtain ⟨inf, hinf, hsz⟩ := Option.map_eq_some_iff.1 hi
  have hc : v.cells.size = inf.size := by rw [hsz, ← hv, Array.length_toList]
  have hst := run_storeCells_at P g i T us 0 old w hg (by simpa using hfit) h1
  simp only [Nat.add_zero] at hst
  rw [hnew] at hst
  simp [Instr.storeAt, Instr.sureAddr, storeVar, sizeOf, typeInfo, hinf, hc, hv, hst]
theorem row_but (w : World) (g : Nat) (cs : Array Value) : But g w (w.setRow g cs) := ⟨rfl, rfl, rfl, Nat.le_of_eq (setRow_size w g cs).symm, fun k _ hk => setRow_other w g k cs hk⟩
theorem store_fld {P : Program} {ops : Array Oper} {rest : List Oper} {o : Oper} {a : Act} {w : World} {Q : Exit → Act → World → Prop} (hgd : o.guard = none) (hd : o.dst = none) (ty : TypeId) (x y : Operand) (ho : o.op = .store ty x y) (g i : Nat) (v : Value) (us : List Value) (hx : a.eval x = .pointer (some ⟨g, i, none⟩)) (hy : a.eval y = v) (hv : v.cells.toList = us) {T : TypeId} {old : Array Value} (new : Array Value)
    (hg : BK w g T old) (hi : (P.info? ty).map (·.size) = some us.length) (hfit : i + us.length ≤ old.size) (h1 : ∀ q ∈ us, q.oneCell' = true) (hnew : old.toList.take i ++ us ++ old.toList.drop (i + us.length) = new.toList)
    (h : ∀ W, BK W g T new → But g w W → W.heap.size = w.heap.size → wpList P ops Q rest a W) : wpList P ops Q (o :: rest) a w := by
  refine wpList_plain hgd fun K hK => ?_
  unfold Oper.wp execOp
  simp only [ho, hx, hy, Sem.run_bind, run_store_fld new ty v us hv hg hi hfit h1 hnew, Result.andThen_ok]
  show K (a.put o.dst undef) _
  rw [hd]
  exact hK _ _ (h _ (hg.row new) (row_but w g new) (setRow_size w g new))
theorem store_fldK {P : Program} {ops : Array Oper} {o : Oper} {a : Act} {w : World} {K : Act → World → Prop} {Q : Exit → Act → World → Prop} (hw : Region.wanted o (yielded ops a.tmps) = true) (hd : o.dst = none) (ty : TypeId) (x y : Operand) (ho : o.op = .store ty x y) (g i : Nat) (v : Value) (us : List Value) (hx : a.eval x = .pointer (some ⟨g, i, none⟩)) (hy : a.eval y = v) (hv : v.cells.toList = us) {T : TypeId} {old : Array Value} (new : Array Value)
    (hg : BK w g T old) (hi : (P.info? ty).map (·.size) = some us.length) (hfit : i + us.length ≤ old.size) (h1 : ∀ q ∈ us, q.oneCell' = true) (hnew : old.toList.take i ++ us ++ old.toList.drop (i + us.length) = new.toList)
    (h : ∀ W, BK W g T new → But g w W → W.heap.size = w.heap.size → K a W) : if Region.wanted o (yielded ops a.tmps) = true then Oper.wp P o a w K Q else K (a.put none undef) w := by
  rw [if_pos hw]
  unfold Oper.wp execOp
  simp only [ho, hx, hy, Sem.run_bind, run_store_fld new ty v us hv hg hi hfit h1 hnew, Result.andThen_ok]
  show K (a.put o.dst undef) _
  rw [hd]
  exact h _ (hg.row new) (row_but w g new) (setRow_size w g new)
/-- what carries facts over such a store -/
theorem VLF.but {B : Nat} {t : VT} {w W : World} {v : Value} {g : Nat} (h : VLF (zNew B) t w v) (hb : But g w W) (hg : g < B) : VLF (zNew B) t W v := by
  have hs : Same ((zNew B).S w) w W := hb.same (fun b hb' => ⟨hb'.2, by have := hb'.1; omega⟩)
  exact ⟨VAL.mono (fun b hb' => ⟨hb'.1, Nat.lt_of_lt_of_le hb'.2 hb.size⟩) (VAL.same hs h.1), NF.same h.2 h.1 hs⟩
theorem VLV.but {B : Nat} {t : VT} {w W : World} {v : Value} {g : Nat} (h : VLV (zNew B) t w v) (hb : But g w W) (hg : g < B) : VLV (zNew B) t W v :=
  VAL.mono (fun b hb' => ⟨hb'.1, Nat.lt_of_lt_of_le hb'.2 hb.size⟩) (VAL.same (hb.same (fun b hb' => ⟨hb'.2, by have := hb'.1; omega⟩)) h)
/-- what was there when there were n blocks -/
def zLt (n : Nat) : Zone where
  S := fun w b => b < n ∧ b < w.heap.size
  lt := fun _ _ h => h.2
  up := fun _ _ _ h hb => ⟨h.1, Nat.lt_of_lt_of_le h.2 hb.size⟩
theorem VLV.old {z : Zone} {t : VT} {w : World} {v : Value} (h : VLV z t w v) : VLV (zLt w.heap.size) t w v := VAL.mono (fun b hb => ⟨z.lt w b hb, z.lt w b hb⟩) h
theorem VLV.butL {n : Nat} {t : VT} {w W : World} {v : Value} {g : Nat} (h : VLV (zLt n) t w v) (hb : But g w W) (hg : n ≤ g) : VLV (zLt n) t W v :=
  VAL.mono (fun b hb' => ⟨hb'.1, Nat.lt_of_lt_of_le hb'.2 hb.size⟩) (VAL.same (hb.same (fun b hb' => ⟨hb'.2, by have h1 : b < n := hb'.1; omega⟩)) h)
theorem ML.but2 {w0 w W : World} {g : Nat} (h0 : ML w0) (h : ML w) (hb : But g w W) (hg : w0.heap.size ≤ g) : ML W := by
  obtain ⟨m, h⟩ := h
  obtain ⟨m0, h0⟩ := h0
  have hlt := World.block_lt_of_cell? w0 _ h0
  have hlt' := World.block_lt_of_cell? w _ h
  refine ⟨m, (World.cell?_of_block (w := w) ?_).trans h⟩
  exact hb.block _ hlt' (fun e => absurd (Nat.lt_of_lt_of_le hlt hg) (by rw [← e]; exact Nat.lt_irrefl _))
/-- a member, its tree and whether it is there as letters -/
theorem got_let (t : VT) (nm : ByteArray) (hk : t.bulk ≤ 1073741824) : ∃ (b : Bool) (u : VT), t.has nm = b ∧ t.getD nm = u ∧ u.bulk ≤ t.bulk + 1 ∧ (b = false → u = .nul) ∧ ∀ (w : World) (z : Zone) (v : Value), VLV z t w v →
    Calls Tryz.prog 94 #[v, .string nm] w fun e w' => ∃ v', e = .returned (.tuple #[v', .bool b]) ∧ VAL w' (New w w') u v' ∧ Below w.heap.size w w' ∧ NF w' v' :=
  ⟨_, _, rfl, rfl, VT.getD_bulk t nm, VT.getD_none, fun w z v h => Get_nf t nm w _ v h (z.lt w) hk⟩
theorem store3 {P : Program} {ops : Array Oper} {rest : List Oper} {o : Oper} {a : Act} {w : World} {Q : Exit → Act → World → Prop} {x1 x2 x3 : Array Value} {T1 T2 T3 : TypeId} (hgd : o.guard = none) (hd : o.dst = none) (ty : TypeId) (x y : Operand) (ho : o.op = .store ty x y) (hx : a.eval x = .pointer (some ⟨w.heap.size + 1 + 1, 0, none⟩)) (new : Array Value) (hy : a.eval y = .agg new)
    (hi : (P.info? ty).map (·.size) = some new.size) (hfit : x3.size = new.size) (h1 : ∀ q ∈ new.toList, q.oneCell' = true)
    (h : ∀ W, BK W w.heap.size T1 x1 → BK W (w.heap.size + 1) T2 x2 → BK W (w.heap.size + 1 + 1) T3 new → Below w.heap.size w W → w.heap.size + 3 ≤ W.heap.size → wpList P ops Q rest a W) : wpList P ops Q (o :: rest) a (((w.alloc (.cells x1 T1)).alloc (.cells x2 T2)).alloc (.cells x3 T3)) :=
  store_fld hgd hd ty x y ho (w.heap.size + 1 + 1) 0 (.agg new) new.toList hx hy rfl new (al3_2 w _ _ _) (by simpa using hi) (by simp [hfit]) h1 (by simp [hfit]) fun W hS hb hz =>
    h W (BK.but (al3_0 w _ _ _) hb (by omega)) (BK.but (al3_1 w _ _ _) hb (by omega)) hS (hb.below (al3_below w _ _ _) (by omega) (by simp; omega)) (by rw [hz]; simp)
theorem store1 {P : Program} {ops : Array Oper} {rest : List Oper} {o : Oper} {a : Act} {w : World} {Q : Exit → Act → World → Prop} {x1 : Array Value} {T1 : TypeId} (hgd : o.guard = none) (hd : o.dst = none) (ty : TypeId) (x y : Operand) (ho : o.op = .store ty x y) (hx : a.eval x = .pointer (some ⟨w.heap.size, 0, none⟩)) (new : Array Value) (hy : a.eval y = .agg new)
    (hi : (P.info? ty).map (·.size) = some new.size) (hfit : x1.size = new.size) (h1 : ∀ q ∈ new.toList, q.oneCell' = true)
    (h : ∀ W, BK W w.heap.size T1 new → Below w.heap.size w W → w.heap.size + 1 ≤ W.heap.size → wpList P ops Q rest a W) : wpList P ops Q (o :: rest) a (w.alloc (.cells x1 T1)) :=
  store_fld hgd hd ty x y ho w.heap.size 0 (.agg new) new.toList hx hy rfl new (BK.new w _ _) (by simpa using hi) (by simp [hfit]) h1 (by simp [hfit]) fun W hS hb hz =>
    h W hS (hb.below (made_end' w _) (Nat.le_refl _) (by simp)) (by rw [hz]; simp)
theorem yields_row {P : Program} {ops : Array Oper} {S : World → Prop} {op : Oper} {a : Act} (hw : Region.wanted op (yielded ops a.tmps) = true) (ty : TypeId) (x : Operand) (ho : op.op = .load ty x) (g : Nat) (hx : a.eval x = .pointer (some ⟨g, 0, none⟩)) (T : TypeId) (cs : Array Value) (d : TypeDesc)
    (hS : ∀ w, S w → BK w g T cs) (hu : P.underlying ty = some d) (hd : (match d with | .struct _ | .array _ _ => true | _ => false) = true) (hi : (P.info? ty).map (·.size) = some cs.size) : YieldsIf P ops S op (.agg cs) a :=
  .inl ⟨hw, fun w hw' => by
    unfold execOp
    simp only [ho, hx, Instr.loadAt, Instr.sureAddr, Sem.run_bind, Sem.run_pure, Result.andThen_ok, run_loadVar_row w g T ty cs (0, 0) d (hS w hw') hu hd hi]⟩
/-- a function's end: its result lies in a block, a second one in a slot -/
theorem results_row2 {P : Program} {fn : Func} {p q : Tmp} {ty : TypeId} (h : fn.results = #[.cell p ty, .tmp q]) (tmps : Array Value) (w : World) (g : Nat) (t : TypeId) (cs : Array Value) (d : TypeDesc)
    (hp : tmps.getD p undef = .pointer (some ⟨g, 0, none⟩)) (x : Value) (hq : tmps.getD q undef = x) (hg : BK w g t cs)
    (hu : P.underlying ty = some d) (hd : (match d with | .struct _ | .array _ _ => true | _ => false) = true) (hi : (P.info? ty).map (·.size) = some cs.size) :
    (results fn tmps).run P w = .ok (.tuple #[.agg cs, x]) w := by
  have hp' : tmps[p]?.getD undef = .pointer (some ⟨g, 0, none⟩) := by simpa using hp
  have hq' : tmps[q]?.getD undef = x := by simpa using hq
  simp [results, h, hp', hq', asAddr, run_loadVar_row w g t ty cs (0, 0) d hg hu hd hi]
theorem results_row1 {P : Program} {fn : Func} {p : Tmp} {ty : TypeId} (h : fn.results = #[.cell p ty]) (tmps : Array Value) (w : World) (g : Nat) (t : TypeId) (cs : Array Value) (d : TypeDesc)
    (hp : tmps.getD p undef = .pointer (some ⟨g, 0, none⟩)) (hg : BK w g t cs)
    (hu : P.underlying ty = some d) (hd : (match d with | .struct _ | .array _ _ => true | _ => false) = true) (hi : (P.info? ty).map (·.size) = some cs.size) :
    (results fn tmps).run P w = .ok (.agg cs) w := results_cell_row h tmps w g t cs (0, 0) d hp hg hu hd hi
theorem nul_VLF (z : Zone) (w : World) : VLF z .nul w (.agg #[.int .i64 0, .bool false, .string ⟨#[]⟩, .slice none 0 0, .slice none 0 0]) := ⟨nul_VAL _ _, nul_NF w⟩
theorem VLF.le {B B' : Nat} {t : VT} {w : World} {v : Value} (h : VLF (zNew B) t w v) (hB : B' ≤ B) : VLF (zNew B') t w v := ⟨VAL.mono (fun b hb => ⟨Nat.le_trans hB hb.1, hb.2⟩) h.1, h.2⟩
theorem VAL.zf {w w' : World} {t : VT} {v : Value} (h : VAL w' (New w w') t v) (hn : NF w' v) {B : Nat} (hB : B ≤ w.heap.size) : VLF (zNew B) t w' v := ⟨VAL.mono (fun b hb => ⟨Nat.le_trans hB hb.1, hb.2⟩) h, hn⟩
/-- nothing, wherever -/
theorem nul_VLV (z : Zone) (w : World) : VLV z .nul w (.agg #[.int .i64 0, .bool false, .string ⟨#[]⟩, .slice none 0 0, .slice none 0 0]) := nul_VAL _ _
theorem VAL.z {w w' : World} {t : VT} {v : Value} (h : VAL w' (New w w') t v) {B : Nat} (hB : B ≤ w.heap.size) : VLV (zNew B) t w' v := VAL.mono (fun b hb => ⟨Nat.le_trans hB hb.1, hb.2⟩) h
/-- a member that was got, as a box holds it -/
theorem bne_t {a b : Int} (h : ¬ a = b) : (a != b) = true := by rw [bne_iff_ne]; exact h
theorem bne_f {a b : Int} (h : a = b) : (a != b) = false := by subst h; simp
theorem beq_t {a b : Int} (h : a = b) : (a == b) = true := by subst h; simp
theorem beq_f {a b : Int} (h : ¬ a = b) : (a == b) = false := by rw [beq_eq_false_iff_ne]; exact h
end Go.Proofs.YtfploakafbnigaaGreatDoor
