/-
  Layer 28, the walks: what the writes make of a pool in memory.
-/
import Derived.Test.YtfploakafbnigaaGreatDoorCPoolMem
namespace Go.Proofs.YtfploakafbnigaaGreatDoor
open Go.RowKit Val Pl
set_option linter.unusedVariables false
set_option linter.unusedSimpArgs false
/-- a method ends: the pool is another one, nothing else has turned -/
def PO {α : Type} (enc : α → Value) (Tj TP TW : TypeId) (B : Nat) (s' : Pst α) (h : PH) (v : Value) (w : World) (e : Ending) (w' : World) : Prop :=
  ∃ h', e = .returned v ∧ h'.pb = h.pb ∧ PM enc Tj TP TW B s' h' w' ∧ Mv h.S h'.S w w'
theorem ML.same {w w' : World} (h : ML w) (he : w'.heap[1]? = w.heap[1]?) : ML w' := by
  obtain ⟨m, hm⟩ := h
  exact ⟨m, (World.cell?_of_block (w := w) he).trans hm⟩
theorem own_same {w w' : World} {B e size n : Nat} {v : Value} {xs : List Value} (h : w.ownsRow B e size v n xs) (hw : ∀ g, v.ownBlock = some g → w'.heap[g]? = w.heap[g]?) : w'.ownsRow B e size v n xs := by
  refine ⟨h.1, ?_⟩
  rcases h.2 with h1 | ⟨g, cap, cur, e, hb, hg, hr⟩
  · exact .inl h1
  · exact .inr ⟨g, cap, cur, e, hb, (hw g (by rw [e]; rfl)).trans hg, hr⟩
theorem set_size (w : World) (a : Addr) (v : Value) : (w.setCell a v).heap.size = w.heap.size := by simp [World.setCell]
section
variable {α : Type} {enc : α → Value} {Tj TP TW : TypeId} {B : Nat} {s : Pst α} {h : PH} {w w1 w' : World}
theorem PM.read (p : PM enc Tj TP TW B s h w) {v : Value} {e : Ending} (h1 : e = .returned v) (hb : Below w.heap.size w w') : PO enc Tj TP TW B s h v w e w' :=
  ⟨h, h1, rfl, p.on hb, Mv.of hb⟩
theorem PM.q_lt (p : PM enc Tj TP TW B s h w) {g : Nat} (hg : h.qv.ownBlock = some g) : B ≤ g ∧ g < w.heap.size := p.q.lt g hg
theorem PM.B_le (p : PM enc Tj TP TW B s h w) : B ≤ w.heap.size := Nat.le_of_lt (Nat.lt_of_le_of_lt p.bp.1 p.box.lt)
theorem PM.j_lt (p : PM enc Tj TP TW B s h w) {g : Nat} (hg : some g ∈ h.js) : g < w.heap.size := p.S_lt (.inr (.inr (.inr hg)))
theorem PM.pq (p : PM enc Tj TP TW B s h w) : h.qv.ownBlock ≠ some h.pb := fun e => (p.qf _ e).1 rfl
theorem PM.wq (p : PM enc Tj TP TW B s h w) : h.qv.ownBlock ≠ some h.wb := fun e => (p.qf _ e).2 rfl
/-- a queue's new value stands in the box -/
theorem PM.requeue (p : PM enc Tj TP TW B s h w) {q' : List (Job α)} {v' : Value} (hown : w1.ownsRow B Tj 9 v' q'.length (jcs enc q')) (hle : q'.length ≤ 64) (hok : ∀ j ∈ q', okj j)
    (hat : ∀ g, v'.ownBlock = some g → h.qv.ownBlock = some g ∨ w.heap.size ≤ g)
    (hos : w1.os = w.os) (htape : w1.tape = w.tape) (hout : w1.output = w.output) (hsize : w.heap.size ≤ w1.heap.size) (hold : ∀ b, b < w.heap.size → h.qv.ownBlock ≠ some b → w1.heap[b]? = w.heap[b]?) :
    PM enc Tj TP TW B ⟨q', s.us⟩ { h with qv := v' } (w1.setCell ⟨h.pb, 0, none⟩ v') ∧ Mv h.S ({ h with qv := v' } : PH).S w (w1.setCell ⟨h.pb, 0, none⟩ v') := by
  have hsz := set_size w1 ⟨h.pb, 0, none⟩ v'
  have hfar : ∀ b, b ≠ h.pb → (w1.setCell ⟨h.pb, 0, none⟩ v').heap[b]? = w1.heap[b]? := fun b hb => Below.heap_setCell w1 _ v' b hb
  have hbox : BK w1 h.pb TP #[h.qv, .slice (some ⟨h.wb, 0, none⟩) h.js.length h.js.length] := (hold _ p.box.lt p.pq).trans p.box
  have hnp : ∀ g, v'.ownBlock = some g → g ≠ h.pb ∧ g ≠ h.wb := fun g hg => by
    rcases hat g hg with h1 | h1
    · exact p.qf g h1
    · have := p.box.lt; have := p.ws.lt; omega
  have hBw := p.B_le
  have hG := p.ml.lt
  have hlo := p.lo
  have hq : h.qv.ownBlock ≠ some 1 := fun e => by have := (p.q_lt e).1; omega
  have hp : 1 ≠ h.pb := by have := p.bp.1; omega
  have hjq : ∀ g, some g ∈ h.js → v'.ownBlock ≠ some g := fun g hg e => by
    rcases hat g e with h1 | h1
    · exact (p.jf g hg).2.2.1 h1
    · have := p.j_lt hg; omega
  refine ⟨⟨hbox.set 0 v' rfl, own_same hown (fun g hg => hfar g (hnp g hg).1), ?_, ?_, p.ne, hnp, ?_, p.inj, p.bp, p.many, hle, hok, p.oku, ?_, p.lo⟩, ⟨hos, htape, hout, by rw [hsz]; exact hsize, ?_, ?_⟩⟩
  · exact ((hfar _ (fun e => p.ne e.symm)).trans (hold _ p.ws.lt p.wq)).trans p.ws
  · intro i
    refine (p.us i).same (fun g hg => ?_)
    have hm : some g ∈ h.js := List.mem_iff_getElem?.2 ⟨i, hg⟩
    exact (hfar g (p.jf g hm).1).trans (hold g (p.j_lt hm) (p.jf g hm).2.2.1)
  · exact fun g hg => ⟨(p.jf g hg).1, (p.jf g hg).2.1, hjq g hg, (p.jf g hg).2.2.2⟩
  · exact p.ml.same ((hfar _ hp).trans (hold _ hG hq))
  · intro b hb hS
    exact (hfar b (fun e => hS (.inl e))).trans (hold b hb (fun e => hS (.inr (.inr (.inl e)))))
  · rintro b (h1 | h1 | h1 | h1)
    · exact .inl (.inl h1)
    · exact .inl (.inr (.inl h1))
    · rcases hat b h1 with h2 | h2
      · exact .inl (.inr (.inr (.inl h2)))
      · exact .inr h2
    · exact .inl (.inr (.inr (.inr h1)))
/-- a store into a cell of one of the pool's blocks -/
theorem Mv.set (S : Nat → Prop) (w : World) {a : Addr} (v : Value) (hS : S a.block) : Mv S S w (w.setCell a v) :=
  ⟨rfl, rfl, rfl, Nat.le_of_eq (set_size w a v).symm, fun b hb hn => Below.heap_setCell w a v b (fun e => hn (e ▸ hS)), fun b hb => .inl hb⟩
theorem jcs_set {α : Type} (enc : α → Value) (l : List (Job α)) (i : Nat) (x : α) (hi : i < l.length) : jcs enc (l.modify i (fun j => { j with x := x })) = (jcs enc l).set (i * 9 + 7) (enc x) := by
  induction l generalizing i with
  | nil => simp at hi
  | cons a r ih =>
    cases i with
    | zero => rfl
    | succ i =>
      have e : (a :: r).modify (i + 1) (fun j => { j with x := x }) = a :: r.modify i (fun j => { j with x := x }) := by simp
      rw [e]
      show jc enc a ++ jcs enc (r.modify i _) = (jc enc a ++ jcs enc r).set ((i + 1) * 9 + 7) (enc x)
      rw [ih i (by simpa using hi), List.set_append_right _ _ (by rw [jc_len]; omega), jc_len]
      congr 2; omega
/-- other data at a job that waits -/
theorem PM.setx (p : PM enc Tj TP TW B s h w) {g n cap i : Nat} (hv : h.qv = .slice (some ⟨g, 0, none⟩) n cap) (hi : i < s.q.length) (x : α) :
    PM enc Tj TP TW B ⟨s.q.modify i (fun j => { j with x := x }), s.us⟩ h (w.setCell ⟨g, i * 9 + 7, none⟩ (enc x)) ∧ Mv h.S h.S w (w.setCell ⟨g, i * 9 + 7, none⟩ (enc x)) := by
  have hq : h.qv.ownBlock = some g := by rw [hv]; rfl
  have hfar : ∀ b, b ≠ g → (w.setCell ⟨g, i * 9 + 7, none⟩ (enc x)).heap[b]? = w.heap[b]? := fun b hb => Below.heap_setCell w _ _ b hb
  have hl : (s.q.modify i (fun j => { j with x := x })).length = s.q.length := by simp
  refine ⟨⟨(hfar _ (fun e => p.pq (hq.trans (congrArg some e.symm)))).trans p.box, ?_, (hfar _ (fun e => p.wq (hq.trans (congrArg some e.symm)))).trans p.ws, ?_, p.ne, p.qf, p.jf, p.inj, p.bp, p.many, by rw [hl]; exact p.le, ?_, p.oku, ?_, p.lo⟩, Mv.set _ _ _ (.inr (.inr (.inl hq)))⟩
  · refine ⟨by rw [jcs_len], .inr ?_⟩
    rcases p.q.2 with ⟨h0, _⟩ | ⟨g', cap', cur, e, hb, hg, hn, hm, hs, ht⟩
    · rw [hv] at h0; cases h0
    · rw [hv] at e
      injection e with e1 e2 e3
      injection e1 with e1
      injection e1 with e1
      subst e1 e2 e3
      refine ⟨g, cap, cur.setIfInBounds (i * 9 + 7) (enc x), by rw [hv, hl], hb, BK.set (w := w) hg _ _ rfl, by rw [hl]; exact hn, hm, by simpa using hs, ?_⟩
      rw [hl, jcs_set enc s.q i x hi, ← ht, Array.toList_setIfInBounds, List.take_set]
  · intro k
    refine (p.us k).same (fun b hb => hfar b (fun e => ?_))
    subst e
    exact (p.jf b (List.mem_iff_getElem?.2 ⟨k, hb⟩)).2.2.1 hq
  · intro j hj
    obtain ⟨k, hk⟩ := List.mem_iff_getElem?.1 hj
    rw [List.getElem?_modify] at hk
    obtain ⟨b, hb, e⟩ := Option.map_eq_some_iff.1 hk
    have := p.okq b (List.mem_iff_getElem?.2 ⟨k, hb⟩)
    split at e <;> subst e <;> exact this
  · exact p.ml.same (hfar _ (fun e => by have := (p.q_lt hq).1; have := p.lo; omega))
theorem js_set_mem {js : List (Option Nat)} {k g : Nat} {o : Option Nat} (h : some g ∈ js.set k o) : (some g ∈ js ∧ (∃ i, i ≠ k ∧ js[i]? = some (some g))) ∨ o = some g := by
  obtain ⟨i, hi⟩ := List.mem_iff_getElem?.1 h
  rw [List.getElem?_set] at hi
  by_cases e : k = i
  · subst e
    rw [if_pos rfl] at hi
    split at hi
    · right; injection hi
    · cases hi
  · rw [if_neg e] at hi
    exact .inl ⟨List.mem_iff_getElem?.2 ⟨i, hi⟩, i, fun e' => e e'.symm, hi⟩
/-- a worker has another job, or none: its pointer is stored -/
theorem PM.worker (p : PM enc Tj TP TW B s h w) {k : Nat} (hk : k < h.js.length) (o : Option Nat) (u : Option (Job α)) (hu : UJ enc Tj w (some o) (some u)) (hok : ∀ j, u = some j → okj j)
    (hnew : ∀ g, o = some g → ¬ h.S g ∧ B ≤ g) :
    PM enc Tj TP TW B ⟨s.q, s.us.set k u⟩ { h with js := h.js.set k o } (w.setCell ⟨h.wb, k, none⟩ (pv o)) ∧ (∀ b, b ≠ h.wb → (w.setCell ⟨h.wb, k, none⟩ (pv o)).heap[b]? = w.heap[b]?) ∧
      (∀ b, ({ h with js := h.js.set k o } : PH).S b → h.S b ∨ o = some b) := by
  have hfar : ∀ b, b ≠ h.wb → (w.setCell ⟨h.wb, k, none⟩ (pv o)).heap[b]? = w.heap[b]? := fun b hb => Below.heap_setCell w _ _ b hb
  have hjw : ∀ g, some g ∈ h.js.set k o → g ≠ h.pb ∧ g ≠ h.wb ∧ h.qv.ownBlock ≠ some g ∧ B ≤ g := fun g hg => by
    rcases js_set_mem hg with ⟨h1, _⟩ | h1
    · exact p.jf g h1
    · obtain ⟨h2, h3⟩ := hnew g h1
      exact ⟨fun e => h2 (.inl e), fun e => h2 (.inr (.inl e)), fun e => h2 (.inr (.inr (.inl e))), h3⟩
  refine ⟨⟨?_, own_same p.q (fun g hg => hfar g (p.qf g hg).2), ?_, ?_, p.ne, p.qf, hjw, ?_, p.bp, by simpa using p.many, p.le, p.okq, ?_, ?_, p.lo⟩, hfar, ?_⟩
  · show BK _ h.pb TP #[h.qv, .slice (some ⟨h.wb, 0, none⟩) (h.js.set k o).length (h.js.set k o).length]
    rw [List.length_set]
    exact (hfar _ p.ne).trans p.box
  · refine p.ws.set k (pv o) ?_
    apply Array.ext'
    simp [List.map_set]
  · intro i
    show UJ enc Tj _ (h.js.set k o)[i]? (s.us.set k u)[i]?
    rw [List.getElem?_set, List.getElem?_set]
    by_cases e : k = i
    · subst e
      rw [if_pos rfl, if_pos rfl, if_pos hk, if_pos (by rw [p.len]; exact hk)]
      exact hu.same (fun g hg => hfar g (fun e => (hnew g (Option.some.inj hg)).1 (.inr (.inl e))))
    · rw [if_neg e, if_neg e]
      exact (p.us i).same (fun g hg => hfar g (p.jf g (List.mem_iff_getElem?.2 ⟨i, hg⟩)).2.1)
  · intro i j g hi hj
    rw [List.getElem?_set] at hi hj
    have hgm : ∀ m, h.js[m]? = some (some g) → o ≠ some g := fun m hm e => (hnew g e).1 (.inr (.inr (.inr (List.mem_iff_getElem?.2 ⟨m, hm⟩))))
    by_cases e1 : k = i
    · by_cases e2 : k = j
      · omega
      · rw [if_pos e1] at hi; rw [if_neg e2] at hj
        split at hi
        · exact absurd (Option.some.inj hi) (hgm j hj)
        · rename_i hnk; exact absurd hk hnk
    · by_cases e2 : k = j
      · rw [if_neg e1] at hi; rw [if_pos e2] at hj
        split at hj
        · exact absurd (Option.some.inj hj) (hgm i hi)
        · rename_i hnk; exact absurd hk hnk
      · rw [if_neg e1] at hi; rw [if_neg e2] at hj
        exact p.inj i j g hi hj
  · intro j hj
    rcases List.mem_or_eq_of_mem_set hj with h1 | h1
    · exact p.oku j h1
    · exact hok j h1.symm
  · exact p.ml.same (hfar _ (fun e => by have := p.bp.2; have := p.lo; omega))
  · rintro b (h1 | h1 | h1 | h1)
    · exact .inl (.inl h1)
    · exact .inl (.inr (.inl h1))
    · exact .inl (.inr (.inr (.inl h1)))
    · rcases js_set_mem h1 with ⟨h2, _⟩ | h2
      · exact .inl (.inr (.inr (.inr h2)))
      · exact .inr h2
/-- a worker's job is marked -/
theorem PM.mark (p : PM enc Tj TP TW B s h w) {k g : Nat} {j : Job α} (hj : h.js[k]? = some (some g)) (hu : s.us[k]? = some (some j)) :
    PM enc Tj TP TW B ⟨s.q, s.us.modify k (Option.map (fun j => { j with can := true }))⟩ h (w.setCell ⟨g, 8, none⟩ (.bool true)) ∧ Mv h.S h.S w (w.setCell ⟨g, 8, none⟩ (.bool true)) := by
  have hm : some g ∈ h.js := List.mem_iff_getElem?.2 ⟨k, hj⟩
  obtain ⟨f1, f2, f3, f4⟩ := p.jf g hm
  have hfar : ∀ b, b ≠ g → (w.setCell ⟨g, 8, none⟩ (.bool true)).heap[b]? = w.heap[b]? := fun b hb => Below.heap_setCell w _ _ b hb
  have hb : BK w g Tj (jc enc j).toArray := by have := p.us k; rw [hj, hu] at this; exact this
  refine ⟨⟨(hfar _ (fun e => f1 e.symm)).trans p.box, own_same p.q (fun b hb => hfar b (fun e => f3 (e ▸ hb))), (hfar _ (fun e => f2 e.symm)).trans p.ws, ?_, p.ne, p.qf, p.jf, p.inj, p.bp, p.many, p.le, p.okq, ?_, ?_, p.lo⟩, Mv.set _ _ _ (.inr (.inr (.inr hm)))⟩
  · intro i
    show UJ enc Tj _ h.js[i]? (s.us.modify k _)[i]?
    rw [List.getElem?_modify]
    by_cases e : k = i
    · subst e
      rw [hj, hu]
      simp only [if_true, Option.map_some, Option.map]
      exact hb.set 8 (.bool true) rfl
    · have e1 : (fun a => if k = i then (Option.map (fun j : Job α => { j with can := true }) a) else a) = (fun a => a) := by funext a; rw [if_neg e]
      rw [e1]
      have := p.us i
      cases hh : s.us[i]? with
      | none => rw [hh] at this; exact this.same (fun b hb' => hfar b (fun e' => e (p.inj k i g hj (e' ▸ hb'))))
      | some a => rw [hh] at this; exact this.same (fun b hb' => hfar b (fun e' => e (p.inj k i g hj (e' ▸ hb'))))
  · intro j' hj'
    obtain ⟨i, hi⟩ := List.mem_iff_getElem?.1 hj'
    rw [List.getElem?_modify] at hi
    obtain ⟨b, hb, e⟩ := Option.map_eq_some_iff.1 hi
    split at e
    · cases b with
      | none => cases e
      | some b => injection e with e; subst e; exact p.oku b (List.mem_iff_getElem?.2 ⟨i, hb⟩)
    · subst e; exact p.oku j' (List.mem_iff_getElem?.2 ⟨i, hb⟩)
  · exact p.ml.same (hfar _ (fun e => by have := p.lo; omega))
/-- the new pool -/
theorem PM.new (w : World) {n : Nat} (hn : 1 ≤ n ∧ n ≤ 4) (hM : ML w) {B : Nat} (hB : B ≤ w.heap.size) (hlo : 1 < B) (hg : BK w' w.heap.size TW ((List.replicate n none).map pv).toArray) (hp : BK w' (w.heap.size + 1) TP #[.slice none 0 0, .slice (some ⟨w.heap.size, 0, none⟩) n n]) (hb : Below w.heap.size w w') :
    PM enc Tj TP TW B (Pst.new n : Pst α) ⟨w.heap.size + 1, w.heap.size, .slice none 0 0, List.replicate n none⟩ w' where
  box := by rw [List.length_replicate]; exact hp
  q := World.ownsRow_nil _ _ _ _
  ws := hg
  us := fun i => by
    show UJ enc Tj w' (List.replicate n none)[i]? (List.replicate n none)[i]?
    rw [List.getElem?_replicate, List.getElem?_replicate]
    split <;> trivial
  ne := by show w.heap.size + 1 ≠ w.heap.size; omega
  qf := fun g hg => by cases hg
  jf := fun g hg => by rw [List.mem_replicate] at hg; cases hg.2
  inj := fun i k g hi => by
    rw [List.getElem?_replicate] at hi
    split at hi
    · injection hi with hi; cases hi
    · cases hi
  bp := ⟨by show B ≤ w.heap.size + 1; omega, hB⟩
  many := by rw [List.length_replicate]; exact hn
  le := Nat.zero_le _
  okq := fun j hj => by cases hj
  oku := fun j hj => by have h1 : some j ∈ List.replicate n (none : Option (Job α)) := hj; rw [List.mem_replicate] at h1; cases h1.2
  ml := hM.on hb
  lo := hlo
end
theorem Mv.store {S S' S2 : Nat → Prop} {w w6 : World} (m : Mv S S' w w6) {a : Addr} (v : Value) (hS : S a.block) (hn : ∀ b, S2 b → S' b ∨ w.heap.size ≤ b) : Mv S S2 w (w6.setCell a v) :=
  ⟨m.os, m.tape, m.output, by rw [set_size]; exact m.size, fun b hb hs => (Below.heap_setCell w6 a v b (fun e => hs (e ▸ hS))).trans (m.old b hb hs), fun b hb => by
    rcases hn b hb with h1 | h1
    · exact m.new b h1
    · exact .inr h1⟩
/-- two stores into two blocks: either may come first -/
theorem set_comm (w : World) {a b : Addr} (u v : Value) (h : a.block ≠ b.block) : (w.setCell a u).setCell b v = (w.setCell b v).setCell a u := by
  have e : (w.setCell a u).heap.modify b.block (fun o => match o with | .cells cs t fr => .cells (cs.setIfInBounds b.off v) t fr | o => o) = (w.setCell a u).heap.modify b.block (fun o => match o with | .cells cs t fr => .cells (cs.setIfInBounds b.off v) t fr | o => o) := rfl
  unfold World.setCell
  dsimp only
  congr 1
  apply Array.ext_getElem?
  intro i
  simp only [Array.getElem?_modify]
  by_cases h1 : a.block = i
  · by_cases h2 : b.block = i
    · exact absurd (h1.trans h2.symm) h
    · simp [h1, h2]
  · simp [h1]
theorem own_fr {w : World} {B e size n g cap : Nat} {xs : List Value} (h : w.ownsRow B e size (.slice (some ⟨g, 0, none⟩) n cap) n xs) (k : Nat) : w.frozen? ⟨g, k, none⟩ = false := by
  rcases h.2 with ⟨h1, _⟩ | ⟨g', cap', cur, e, hb, hg, hr⟩
  · cases h1
  · injection e with e1 e2 e3
    injection e1 with e1
    injection e1 with e1
    subst e1
    simp [World.frozen?, hg]
end Go.Proofs.YtfploakafbnigaaGreatDoor
