/-
  Layer 28, the walks: a pool in memory.
-/
import Derived.Test.YtfploakafbnigaaGreatDoorCRpcId
import Derived.Test.YtfploakafbnigaaGreatDoorCPoolSpec
import Derived.Deep.AppendLies
import Derived.Laws.CopyRow
import Derived.Laws.AppendOwn
import Derived.Laws.Slices
namespace Go.Proofs.YtfploakafbnigaaGreatDoor
open Go.RowKit Val Pl
set_option linter.unusedVariables false
set_option linter.unusedSimpArgs false
theorem run_clear_row {P : Program} (w : World) (t e ty T : TypeId) (z : Value) (zs : List Value) (ht : P.underlying t = some (.slice e)) (hv : ∀ w, (zeroValue e).run P w = .ok z w) (hz : (Builtin.zeroCells z.cells 1).toList = zs)
    (g o c : Nat) (cur : Array Value) (hg : w.heap[g]? = some (.cells cur T (0, 0))) (hfit : o + zs.length ≤ cur.size) (h1 : ∀ v ∈ zs, v.oneCell' = true) :
    (Builtin.clear_ #[t] ty #[.slice (some ⟨g, o, none⟩) 1 c]).run P w = .ok (.tuple #[]) (w.setRow g (cur.toList.take o ++ zs ++ cur.toList.drop (o + zs.length)).toArray) := by
  have hst := run_storeCells_at P g o T zs 0 cur w hg (by simpa using hfit) h1
  simp only [Nat.add_zero] at hst
  simp [Builtin.clear_, run_underlying ht, hv, hz, hst]
theorem wpList_clear_row {P : Program} {ops : Array Oper} {rest : List Oper} {o : Oper} {a : Act} {w : World} {Q : Exit → Act → World → Prop} (hgd : o.guard = none) (hd : o.dst = none) (x : Operand) (t : TypeId)
    (ho : o.op = .call { callee := .builtin .clear, args := #[x], argTypes := #[t] }) (e T : TypeId) (z : Value) (zs : List Value) (ht : P.underlying t = some (.slice e)) (hv : ∀ w, (zeroValue e).run P w = .ok z w) (hz : (Builtin.zeroCells z.cells 1).toList = zs)
    (g off c m : Nat) (hx : a.eval x = .slice (some ⟨g, off, none⟩) m c) (hm : m = 1) (cur : Array Value) (hg : w.heap[g]? = some (.cells cur T (0, 0))) (hfit : off + zs.length ≤ cur.size) (h1 : ∀ v ∈ zs, v.oneCell' = true)
    (h : wpList P ops Q rest a (w.setRow g (cur.toList.take off ++ zs ++ cur.toList.drop (off + zs.length)).toArray)) : wpList P ops Q (o :: rest) a w := by
  subst hm
  refine wpList_plain hgd fun K hK => ?_
  have hr := run_clear_row (P := P) w t e o.type T z zs ht hv hz g off c cur hg hfit h1
  unfold Oper.wp execOp
  simp only [ho, resolve, invoke, builtin, Sem.run_bind, Sem.run_pure, Result.andThen_ok, List.map_toArray, List.map_cons, List.map_nil, hx, hr]
  show K (a.put o.dst _) _
  rw [hd]
  exact hK _ _ h
theorem step_append_row {P : Program} {ops : Array Oper} {o : Oper} {a : Act} {w : World} {K : Act → World → Prop} {Q : Exit → Act → World → Prop} {E : Prop} (hgd : o.guard = none) (s x : Operand) (t : TypeId)
    (ho : o.op = .call { callee := .builtin .append, args := #[s, x], argTypes := #[t, t] }) (e : TypeId) (i : TypeInfo) (size : Nat) (ht : P.underlying t = some (.slice e)) (hi : P.info? e = some i) (hs : i.size = size)
    (g n cap : Nat) (hv : a.eval s = .slice (some ⟨g, 0, none⟩) n cap) (cur : Array Value) (hg : w.heap[g]? = some (.cells cur e (0, 0)))
    (ad : Addr) (m c : Nat) (news : List Value) (hx : a.eval x = .slice (some ad) m c) (hl : news.length = m * size) (hnews : ∀ j u, news[j]? = some u → w.cell? (ad.add j) = some u) (h1 : ∀ u ∈ news, u.oneCell' = true)
    (k : Nat) (hk : n + m = k) (hroom : n + m ≤ cap) (hfit : n * size + news.length ≤ cur.size)
    (hK : K (a.put o.dst (.slice (some ⟨g, 0, none⟩) k cap)) (w.setRow g (cur.toList.take (n * size) ++ news ++ cur.toList.drop (n * size + news.length)).toArray)) :
    if Region.wanted o (yielded ops a.tmps) = true then Oper.wp P o a w K Q else E := by
  have hw : Region.wanted o (yielded ops a.tmps) = true := by simp [Region.wanted, hgd]
  rw [if_pos hw]
  subst hs hk
  have hr := run_append_room (P := P) w t o.type e i ht hi g n cap cur hg ad m c news hl hnews h1 hroom hfit
  unfold Oper.wp execOp
  simp only [ho, resolve, invoke, builtin, Sem.run_bind, Sem.run_pure, Result.andThen_ok, List.map_toArray, List.map_cons, List.map_nil, hv, hx, hr]
  exact hK
/-- an id's cells -/
def LId.cells (i : LId) : List Value := [.int .i64 i.kind, .bool false, .string i.text, .slice none 0 0, .slice none 0 0]
/-- what an id is: short, of a kind that is a number of Go's -/
def LId.ok (i : LId) : Prop := I64 i.kind ∧ i.text.size ≤ 1000
theorem leaf_VLV {z : Zone} {w : World} {i : LId} (h : LId.ok i) : VLV z i.vt w (.agg #[.int .i64 i.kind, .bool false, .string i.text, .slice none 0 0, .slice none 0 0]) :=
  VAL.shut (k := i.kind) (i := false) (t := i.text) (n := 0) (c := fun _ => .leaf) (m := []) (cap := 0) (cap' := 0) h.1 (.inl rfl) (.inl rfl)
theorem leaf_bulk (i : LId) : i.vt.bulk = 1 + i.text.size := rfl
/-- a job's cells -/
def jc {α : Type} (enc : α → Value) (j : Job α) : List Value := [.bool j.call, .int .i64 j.id.kind, .bool false, .string j.id.text, .slice none 0 0, .slice none 0 0, .string j.name, enc j.x, .bool j.can]
theorem jc_len {α : Type} (enc : α → Value) (j : Job α) : (jc enc j).length = 9 := rfl
def jcs {α : Type} (enc : α → Value) (l : List (Job α)) : List Value := l.flatMap (jc enc)
theorem jcs_len {α : Type} (enc : α → Value) (l : List (Job α)) : (jcs enc l).length = l.length * 9 := by
  induction l with
  | nil => rfl
  | cons a r ih => show (jc enc a ++ jcs enc r).length = _; rw [List.length_append, ih, jc_len]; simp; omega
theorem jcs_append {α : Type} (enc : α → Value) (l r : List (Job α)) : jcs enc (l ++ r) = jcs enc l ++ jcs enc r := List.flatMap_append
theorem jcs_get {α : Type} (enc : α → Value) (l : List (Job α)) (i k : Nat) (j : Job α) (h : l[i]? = some j) (hk : k < 9) : (jcs enc l)[i * 9 + k]? = (jc enc j)[k]? := by
  induction l generalizing i with
  | nil => cases h
  | cons a r ih =>
    cases i with
    | zero =>
      cases h
      show (jc enc j ++ jcs enc r)[0 * 9 + k]? = _
      rw [List.getElem?_append_left (by rw [jc_len]; omega)]
      congr 1; omega
    | succ i =>
      show (jc enc a ++ jcs enc r)[(i + 1) * 9 + k]? = _
      rw [List.getElem?_append_right (by rw [jc_len]; omega), jc_len, ← ih i (by simpa using h)]
      congr 1; omega
/-- where a pool lies: its box, its workers' row, the value of its queue, the workers' jobs -/
structure PH where
  pb : Nat
  wb : Nat
  qv : Value
  js : List (Option Nat)
/-- its blocks -/
def PH.S (h : PH) (b : Nat) : Prop := b = h.pb ∨ b = h.wb ∨ h.qv.ownBlock = some b ∨ some b ∈ h.js
def pv : Option Nat → Value
  | none => .pointer none
  | some g => .pointer (some ⟨g, 0, none⟩)
def UJ {α : Type} (enc : α → Value) (Tj : TypeId) (w : World) : Option (Option Nat) → Option (Option (Job α)) → Prop
  | none, none => True
  | some none, some none => True
  | some (some g), some (some j) => BK w g Tj (jc enc j).toArray
  | _, _ => False
def okj {α : Type} (j : Job α) : Prop := LId.ok j.id
/-- a pool in memory -/
structure PM {α : Type} (enc : α → Value) (Tj TP TW : TypeId) (B : Nat) (s : Pst α) (h : PH) (w : World) : Prop where
  box : BK w h.pb TP #[h.qv, .slice (some ⟨h.wb, 0, none⟩) h.js.length h.js.length]
  q : w.ownsRow B Tj 9 h.qv s.q.length (jcs enc s.q)
  ws : BK w h.wb TW (h.js.map pv).toArray
  us : ∀ i : Nat, UJ enc Tj w h.js[i]? s.us[i]?
  ne : h.pb ≠ h.wb
  qf : ∀ g, h.qv.ownBlock = some g → g ≠ h.pb ∧ g ≠ h.wb
  jf : ∀ g, some g ∈ h.js → g ≠ h.pb ∧ g ≠ h.wb ∧ h.qv.ownBlock ≠ some g ∧ B ≤ g
  inj : ∀ (i k g : Nat), h.js[i]? = some (some g) → h.js[k]? = some (some g) → i = k
  bp : B ≤ h.pb ∧ B ≤ h.wb
  many : 1 ≤ h.js.length ∧ h.js.length ≤ 4
  le : s.q.length ≤ 64
  okq : ∀ j ∈ s.q, okj j
  oku : ∀ j, some j ∈ s.us → okj j
  ml : ML w
  lo : 1 < B
/-- from a world to another one: what is not the pool's is as it was; the pool's blocks are those, or new -/
structure Mv (S S' : Nat → Prop) (w w' : World) : Prop where
  os : w'.os = w.os
  tape : w'.tape = w.tape
  output : w'.output = w.output
  size : w.heap.size ≤ w'.heap.size
  old : ∀ b, b < w.heap.size → ¬ S b → w'.heap[b]? = w.heap[b]?
  new : ∀ b, S' b → S b ∨ w.heap.size ≤ b
theorem Mv.of {S : Nat → Prop} {w w' : World} (h : Below w.heap.size w w') : Mv S S w w' := ⟨h.os, h.tape, h.output, h.size, fun b hb _ => h.block b hb, fun b hb => .inl hb⟩
theorem Mv.trans {S S' S'' : Nat → Prop} {w w' w'' : World} (h : Mv S S' w w') (k : Mv S' S'' w' w'') : Mv S S'' w w'' :=
  ⟨k.os.trans h.os, k.tape.trans h.tape, k.output.trans h.output, Nat.le_trans h.size k.size,
    fun b hb hS => (k.old b (Nat.lt_of_lt_of_le hb h.size) (fun hS' => by rcases h.new b hS' with h1 | h1; exact hS h1; omega)).trans (h.old b hb hS),
    fun b hb => by
      rcases k.new b hb with h1 | h1
      · exact h.new b h1
      · exact .inr (Nat.le_trans h.size h1)⟩
/-- below the pool's base nothing turns -/
theorem Mv.below {S S' : Nat → Prop} {w w' : World} {B : Nat} (h : Mv S S' w w') (hS : ∀ b, S b → B ≤ b) (hB : B ≤ w.heap.size) : Below B w w' :=
  ⟨h.os, h.tape, h.output, h.size, fun b hb => h.old b (by omega) (fun h1 => by have := hS b h1; omega)⟩
theorem Mv.bk {S S' : Nat → Prop} {w w' : World} {g : Nat} {T : TypeId} {cs : Array Value} (h : Mv S S' w w') (hg : BK w g T cs) (hS : ¬ S g) : BK w' g T cs := (h.old g hg.lt hS).trans hg
theorem Mv.far {S S' : Nat → Prop} {w w' : World} {g : Nat} (h : Mv S S' w w') (hg : g < w.heap.size) (hS : ¬ S g) : ¬ S' g := fun h1 => by
  rcases h.new g h1 with h2 | h2
  · exact hS h2
  · omega
section
variable {α : Type} {enc : α → Value} {Tj TP TW : TypeId} {B : Nat} {s : Pst α} {h : PH} {w w' : World}
theorem UJ.same {o : Option (Option Nat)} {u : Option (Option (Job α))} (hu : UJ enc Tj w o u) (hw : ∀ g, o = some (some g) → w'.heap[g]? = w.heap[g]?) : UJ enc Tj w' o u := by
  match o, u, hu with
  | none, none, _ => trivial
  | some none, some none, _ => trivial
  | some (some g), some (some j), hu => exact (hw g rfl).trans hu
theorem UJ.lt {g : Nat} {u : Option (Option (Job α))} (hu : UJ enc Tj w (some (some g)) u) : g < w.heap.size := by
  match u, hu with
  | some (some j), hu => exact BK.lt hu
theorem PM.S_lt (p : PM enc Tj TP TW B s h w) {b : Nat} (hb : h.S b) : b < w.heap.size := by
  rcases hb with rfl | rfl | hb | hb
  · exact p.box.lt
  · exact p.ws.lt
  · exact (p.q.lt b hb).2
  · obtain ⟨i, hi⟩ := List.mem_iff_getElem?.1 hb
    have := p.us i
    rw [hi] at this
    exact UJ.lt this
theorem PM.S_ge (p : PM enc Tj TP TW B s h w) {b : Nat} (hb : h.S b) : B ≤ b := by
  rcases hb with rfl | rfl | hb | hb
  · exact p.bp.1
  · exact p.bp.2
  · exact (p.q.lt b hb).1
  · exact (p.jf b hb).2.2.2
/-- all its blocks are as they were -/
theorem PM.same (p : PM enc Tj TP TW B s h w) (hw : ∀ b, h.S b → w'.heap[b]? = w.heap[b]?) (hm : ML w') : PM enc Tj TP TW B s h w' where
  box := (hw _ (.inl rfl)).trans p.box
  q := by
    refine ⟨p.q.1, ?_⟩
    rcases p.q.2 with h1 | ⟨g, cap, cur, e, hb, hg, hr⟩
    · exact .inl h1
    · exact .inr ⟨g, cap, cur, e, hb, (hw g (.inr (.inr (.inl (by rw [e]; rfl))))).trans hg, hr⟩
  ws := (hw _ (.inr (.inl rfl))).trans p.ws
  us := fun i => (p.us i).same fun g hg => hw g (.inr (.inr (.inr (List.mem_iff_getElem?.2 ⟨i, hg⟩))))
  ne := p.ne
  qf := p.qf
  jf := p.jf
  inj := p.inj
  bp := p.bp
  many := p.many
  le := p.le
  okq := p.okq
  oku := p.oku
  ml := hm
  lo := p.lo
theorem PM.on (p : PM enc Tj TP TW B s h w) (hb : Below w.heap.size w w') : PM enc Tj TP TW B s h w' :=
  p.same (fun b hS => hb.block b (p.S_lt hS)) (p.ml.on hb)
/-- behind a store beside its blocks -/
theorem PM.but (p : PM enc Tj TP TW B s h w) {g : Nat} (hb : But g w w') (hg : ¬ h.S g) (hlo : B ≤ g) : PM enc Tj TP TW B s h w' :=
  p.same (fun b hS => hb.block b (p.S_lt hS) (fun e => hg (e ▸ hS))) (p.ml.but hb (by have := p.lo; omega))
theorem PM.len (p : PM enc Tj TP TW B s h w) : s.us.length = h.js.length := by
  rcases Nat.lt_trichotomy s.us.length h.js.length with h1 | h1 | h1
  · exfalso
    have := p.us s.us.length
    rw [List.getElem?_eq_getElem h1, List.getElem?_eq_none (Nat.le_refl _)] at this
    cases e : h.js[s.us.length] <;> rw [e] at this <;> exact this
  · exact h1
  · exfalso
    have := p.us h.js.length
    rw [List.getElem?_eq_getElem h1, List.getElem?_eq_none (Nat.le_refl _)] at this
    exact this
end
/-- an element is taken out of a row: what lies behind it is copied down, the last place is cleared -/
theorem own_erase {α : Type} {enc : α → Value} {Tj : TypeId} {B g cap i : Nat} {zs : List (Job α)} {cur zr : List Value} {w w' : World} {c2 : Array Value} (hi : i < zs.length) (hB : B ≤ g) (hn : zs.length ≤ cap) (hm : cap ≤ maxLen) (hs : cur.length = cap * 9) (ht : cur.take (zs.length * 9) = jcs enc zs)
    (hz : zr.length = 9) {cur1 : List Value} (h1 : cur1 = cur.take (i * 9) ++ jcs enc (zs.drop (i + 1)) ++ cur.drop (i * 9 + (jcs enc (zs.drop (i + 1))).length))
    (h2 : c2.toList = cur1.take ((zs.length - 1) * 9) ++ zr ++ cur1.drop ((zs.length - 1) * 9 + zr.length)) (hg : BK w' g Tj c2) :
    w'.ownsRow B Tj 9 (.slice (some ⟨g, 0, none⟩) (zs.length - 1) cap) (zs.eraseIdx i).length (jcs enc (zs.eraseIdx i)) := by
  have hl : (zs.eraseIdx i).length = zs.length - 1 := by rw [List.length_eraseIdx_of_lt hi]
  have hk : (jcs enc (zs.drop (i + 1))).length = (zs.length - (i + 1)) * 9 := by rw [jcs_len, List.length_drop]
  have hc1 : cur1.length = cap * 9 := by
    rw [h1, List.length_append, List.length_append, List.length_take, List.length_drop, hk, hs]; omega
  refine ⟨jcs_len _ _, .inr ⟨g, cap, c2, by rw [hl], hB, hg, by omega, hm, ?_, ?_⟩⟩
  · rw [← Array.length_toList, h2, List.length_append, List.length_append, List.length_take, List.length_drop, hz, hc1]; omega
  · have e1 : (cur1.take ((zs.length - 1) * 9)).length = (zs.length - 1) * 9 := by rw [List.length_take, hc1]; omega
    rw [hl, h2, List.append_assoc, List.take_append_of_le_length (by rw [e1]; exact Nat.le_refl _), List.take_take, Nat.min_self]
    rw [List.eraseIdx_eq_take_drop_succ, jcs_append, h1]
    have e2 : (cur.take (i * 9)).length = i * 9 := by rw [List.length_take, hs]; omega
    have e3 : (cur.take (i * 9) ++ jcs enc (zs.drop (i + 1))).length = (zs.length - 1) * 9 := by rw [List.length_append, e2, hk]; omega
    rw [List.take_append_of_le_length (by rw [e3]; exact Nat.le_refl _), List.take_of_length_le (by rw [e3]; exact Nat.le_refl _)]
    congr 1
    have e4 : cur.take (i * 9) = (jcs enc zs).take (i * 9) := by rw [← ht, List.take_take]; congr 1; omega
    rw [e4]
    have e5 : zs = zs.take i ++ zs.drop i := (List.take_append_drop i zs).symm
    have e6 : (jcs enc (zs.take i)).length = i * 9 := by rw [jcs_len, List.length_take]; congr 1; omega
    have e7 : jcs enc zs = jcs enc (zs.take i) ++ jcs enc (zs.drop i) := by rw [← jcs_append, List.take_append_drop]
    rw [e7, List.take_append_of_le_length (by rw [e6]; exact Nat.le_refl _), List.take_of_length_le (by rw [e6]; exact Nat.le_refl _)]
/-- every cell of a job is one -/
theorem jc_one {α : Type} {enc : α → Value} (he : ∀ x, (enc x).oneCell' = true) (zs : List (Job α)) : ∀ u ∈ jcs enc zs, u.oneCell' = true := by
  intro u hu
  obtain ⟨j, hj, hu⟩ := List.mem_flatMap.1 hu
  simp only [jc, List.mem_cons, List.mem_nil_iff, or_false] at hu
  rcases hu with rfl | rfl | rfl | rfl | rfl | rfl | rfl | rfl | rfl
  all_goals first | rfl | exact he _
end Go.Proofs.YtfploakafbnigaaGreatDoor
