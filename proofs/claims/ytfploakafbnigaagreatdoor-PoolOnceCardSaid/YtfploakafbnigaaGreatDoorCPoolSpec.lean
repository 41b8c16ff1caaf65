/-
  Layer 28 (pool), in plain Lean: jobs, pools, what each call does; the plain laws of PoolOnce, PoolOrder, PoolEnds, PoolFull. No Go and no memory.
-/
import Derived.Test.YtfploakafbnigaaGreatDoorCRpcSpec
namespace Go.Proofs.YtfploakafbnigaaGreatDoor.Pl
open Val
set_option linter.unusedVariables false
set_option linter.unusedSimpArgs false
/-- an id, or a value without members -/
structure LId where
  kind : Int
  text : ByteArray
def LId.vt (i : LId) : VT := .mk i.kind false i.text 0 (fun _ => .leaf) []
def LId.same (a b : LId) : Bool := a.vt.sameId b.vt
/-- a number's digits, below 100 -/
def idT (n : Nat) : ByteArray := if n < 10 then ⟨#[UInt8.ofNat (48 + n)]⟩ else ⟨#[UInt8.ofNat (48 + n / 10), UInt8.ofNat (48 + n % 10)]⟩
def numI (n : Nat) : LId := ⟨2, idT n⟩
theorem idT_int : ∀ n : Fin 100, Num.int (idT n.val).data.toList = ((n.val : Int), true) := by decide
theorem numI_isId : ∀ n : Fin 100, (numI n.val).vt.isId = true := by decide
theorem numI_same {a b : Nat} (ha : a < 100) (hb : b < 100) : (numI a).same (numI b) = decide (a = b) := by
  have h1 := idT_int ⟨a, ha⟩
  have h2 := idT_int ⟨b, hb⟩
  have h3 := numI_isId ⟨a, ha⟩
  have h4 := numI_isId ⟨b, hb⟩
  dsimp only at h1 h2 h3 h4
  unfold LId.same VT.sameId
  rw [h3, h4]
  show (true && true && decide ((2 : Int) = 2) && (if (2 : Int) = 3 then decide (idT a = idT b) else Num.same (idT a).data.toList (idT b).data.toList)) = decide (a = b)
  rw [if_neg (by decide)]
  simp only [Bool.true_and, decide_true]
  by_cases e : a = b
  · subst e
    rw [VT.num_refl (by rw [h1])]; simp
  · rw [decide_eq_false e]
    unfold Num.int at h1 h2
    unfold Num.same
    cases ea : Num.ofS (idT a).data.toList with
    | none => rfl
    | some x =>
      cases eb : Num.ofS (idT b).data.toList with
      | none => rfl
      | some y =>
        rw [ea] at h1
        rw [eb] at h2
        dsimp only at h1 h2 ⊢
        by_cases h : x = y
        · subst h
          rw [h1] at h2
          injection h2 with h2 _
          omega
        · rw [decide_eq_false h]
structure Job (α : Type) where
  call : Bool
  id : LId
  name : ByteArray
  x : α
  can : Bool
structure Pst (α : Type) where
  q : List (Job α)
  us : List (Option (Job α))
namespace Pst
variable {α : Type}
def isJ (id : LId) (j : Job α) : Bool := j.call && j.id.same id
def isN (name : ByteArray) (j : Job α) : Bool := !j.call && decide (j.name = name)
def isU (id : LId) (o : Option (Job α)) : Bool := match o with | some j => isJ id j | none => false
def waiting (s : Pst α) (id : LId) : Option Nat := s.q.findIdx? (isJ id)
def under (s : Pst α) (id : LId) : Option Nat := s.us.findIdx? (isU id)
def noteAt (s : Pst α) (name : ByteArray) : Option Nat := s.q.findIdx? (isN name)
def has (s : Pst α) (id : LId) : Bool := s.q.any (isJ id) || s.us.any (isU id)
def lay (s : Pst α) (j : Job α) : Int × Pst α := if 64 ≤ s.q.length then (7, s) else (0, ⟨s.q ++ [j], s.us⟩)
def call (s : Pst α) (id : LId) (x : α) : Int × Pst α := if (!id.same id || s.has id) = true then (2, s) else s.lay ⟨true, id, ⟨#[]⟩, x, false⟩
def note (s : Pst α) (name : ByteArray) (x : α) : Int × Pst α := match s.noteAt name with
  | some i => (0, ⟨s.q.modify i (fun j => { j with x := x }), s.us⟩)
  | none => s.lay ⟨false, ⟨0, ⟨#[]⟩⟩, name, x, false⟩
def take (s : Pst α) (w : Nat) : Bool × Pst α := match s.us[w]?, s.q with
  | some none, j :: r => (true, ⟨r, s.us.set w (some j)⟩)
  | _, _ => (false, s)
def done (s : Pst α) (w : Nat) : Option (Job α) × Pst α := match s.us[w]? with
  | some (some j) => (some j, ⟨s.q, s.us.set w none⟩)
  | _ => (none, s)
def cancel (s : Pst α) (id : LId) : Bool × Pst α := match s.waiting id with
  | some i => (true, ⟨s.q.eraseIdx i, s.us⟩)
  | none => match s.under id with
    | some i => (false, ⟨s.q, s.us.modify i (Option.map (fun j => { j with can := true }))⟩)
    | none => (false, s)
def new (n : Nat) : Pst α := ⟨[], List.replicate n none⟩
def many (s : Pst α) : Nat := s.us.countP Option.isSome
theorem countP_set {β : Type} (p : β → Bool) (l : List β) (i : Nat) (a b : β) (h : l[i]? = some a) : (l.set i b).countP p + (if p a then 1 else 0) = l.countP p + (if p b then 1 else 0) := by
  induction l generalizing i with
  | nil => cases h
  | cons c r ih =>
    cases i with
    | zero => cases h; simp [List.countP_cons]; omega
    | succ i => have := ih i (by simpa using h); simp [List.countP_cons]; omega
theorem countP_erase {β : Type} (p : β → Bool) (l : List β) (i : Nat) (a : β) (h : l[i]? = some a) : (l.eraseIdx i).countP p + (if p a then 1 else 0) = l.countP p := by
  induction l generalizing i with
  | nil => cases h
  | cons c r ih =>
    cases i with
    | zero => cases h; simp [List.countP_cons]
    | succ i => have := ih i (by simpa using h); simp [List.countP_cons]; omega
theorem countP_modify {β : Type} (p : β → Bool) (l : List β) (i : Nat) (f : β → β) (h : ∀ a, p (f a) = p a) : (l.modify i f).countP p = l.countP p := by
  induction l generalizing i with
  | nil => rw [List.modify_nil]
  | cons c r ih =>
    cases i with
    | zero => simp [List.countP_cons, h]
    | succ i => simp [List.countP_cons, ih i]
/-! ## PoolOnce -/
/-- what waits, or is under way, of call k -/
def cnt (s : Pst Int) (k : Nat) : Nat := s.q.countP (isJ (numI k)) + s.us.countP (isU (numI k))
def okJ (j : Job Int) : Prop := (j.call = true ∧ ∃ k : Nat, k < 40 ∧ j.id = numI k ∧ j.x = k) ∨ (j.call = false ∧ 100 ≤ j.x ∧ j.x < 140)
structure Once (s : Pst Int) (laid ended : Nat → Nat) : Prop where
  len : s.us.length = 4
  le : s.q.length ≤ 64
  q : ∀ j ∈ s.q, okJ j
  us : ∀ j, some j ∈ s.us → okJ j
  sum : ∀ k, k < 40 → s.cnt k + ended k = laid k
  one : ∀ k, k < 40 → s.cnt k ≤ 1
theorem has_cnt (s : Pst Int) (k : Nat) : s.has (numI k) = decide (0 < s.cnt k) := by
  unfold has cnt
  rw [Bool.eq_iff_iff]
  simp only [Bool.or_eq_true, decide_eq_true_eq, List.any_eq_true]
  constructor
  · rintro (⟨j, h1, h2⟩ | ⟨j, h1, h2⟩)
    · have := List.countP_pos_iff.2 ⟨j, h1, h2⟩; omega
    · have := List.countP_pos_iff.2 ⟨j, h1, h2⟩; omega
  · intro h
    rcases Nat.lt_or_ge 0 (s.q.countP (isJ (numI k))) with h1 | h1
    · exact .inl (List.countP_pos_iff.1 h1)
    · exact .inr (List.countP_pos_iff.1 (by omega))
theorem Once.has {s : Pst Int} {laid ended : Nat → Nat} (h : Once s laid ended) {k : Nat} (hk : k < 40) : s.has (numI k) = decide (ended k < laid k) := by
  rw [has_cnt]
  have := h.sum k hk
  congr 1
  simp only [eq_iff_iff]
  omega
theorem Once.le' {s : Pst Int} {laid ended : Nat → Nat} (h : Once s laid ended) {k : Nat} (hk : k < 40) : ended k ≤ laid k := by
  have := h.sum k hk; omega
theorem isJ_num {j : Job Int} {k i : Nat} (hk : k < 40) (hi : i < 40) (h1 : j.call = true) (h2 : j.id = numI i) : isJ (numI k) j = decide (i = k) := by
  unfold isJ; rw [h1, h2, numI_same (by omega) (by omega)]; simp
theorem isJ_note {j : Job Int} {id : LId} (h1 : j.call = false) : isJ id j = false := by unfold isJ; rw [h1]; rfl
def up (f : Nat → Nat) (k : Nat) : Nat → Nat := fun i => if i = k then f i + 1 else f i
theorem Once.new : Once (Pst.new 4) (fun _ => 0) (fun _ => 0) :=
  ⟨rfl, by show 0 ≤ 64; omega, (fun j h => by cases h), (fun j h => by have : some j ∈ List.replicate 4 none := h; rw [List.mem_replicate] at this; cases this.2), (fun k _ => by show List.countP _ [] + List.countP _ (List.replicate 4 none) + 0 = 0; rw [List.countP_replicate]; rfl), (fun k _ => by show List.countP _ [] + List.countP _ (List.replicate 4 none) ≤ 1; rw [List.countP_replicate]; simp [isU])⟩
theorem Once.lay {s : Pst Int} {laid ended : Nat → Nat} (h : Once s laid ended) {k : Nat} (hk : k < 40) : (s.call (numI k) k).1 = 0 ∧ Once (s.call (numI k) k).2 (up laid k) ended ∨ (s.call (numI k) k).1 ≠ 0 ∧ (s.call (numI k) k).2 = s := by
  unfold call
  rw [numI_same (by omega) (by omega)]
  by_cases hh : s.has (numI k) = true
  · right; simp [hh]
  · have hf : s.has (numI k) = false := by simpa using hh
    rw [hf]
    simp only [decide_true, Bool.not_true, Bool.or_false, Bool.false_eq_true, if_false]
    unfold Pst.lay
    by_cases hl : 64 ≤ s.q.length
    · right; rw [if_pos hl]; exact ⟨(by show (7 : Int) ≠ 0; decide), rfl⟩
    · left; rw [if_neg hl]
      have hc : s.cnt k = 0 := by rw [has_cnt] at hf; simpa using hf
      refine ⟨rfl, h.len, by simp; omega, ?_, h.us, ?_, ?_⟩
      · intro j hj
        rcases List.mem_append.1 hj with hj | hj
        · exact h.q j hj
        · rw [List.mem_singleton] at hj; subst hj; exact .inl ⟨rfl, k, hk, rfl, rfl⟩
      · intro i hi
        have h1 := h.sum i hi
        have h2 : isJ (numI i) (⟨true, numI k, ⟨#[]⟩, (k : Int), false⟩ : Job Int) = decide (k = i) := isJ_num hi hk rfl rfl
        show List.countP _ (s.q ++ [_]) + List.countP _ s.us + ended i = up laid k i
        rw [List.countP_append, List.countP_singleton, h2]
        unfold up
        unfold Pst.cnt at h1
        by_cases e : i = k
        · subst e; simp; omega
        · rw [if_neg e]; rw [if_neg (by simp; omega)]; omega
      · intro i hi
        have h1 := h.one i hi
        have h2 : isJ (numI i) (⟨true, numI k, ⟨#[]⟩, (k : Int), false⟩ : Job Int) = decide (k = i) := isJ_num hi hk rfl rfl
        show List.countP _ (s.q ++ [_]) + List.countP _ s.us ≤ 1
        rw [List.countP_append, List.countP_singleton, h2]
        by_cases e : i = k
        · subst e; unfold Pst.cnt at hc; simp; omega
        · rw [if_neg (by simp; omega)]; unfold Pst.cnt at h1; omega
theorem okJ.put {j : Job Int} (h : okJ j) (hc : j.call = false) {x : Int} (h1 : 100 ≤ x) (h2 : x < 140) : okJ { j with x := x } := by
  rcases h with h | h
  · rw [hc] at h; cases h.1
  · exact .inr ⟨hc, h1, h2⟩
theorem mem_modify {β : Type} {l : List β} {i : Nat} {f : β → β} {a : β} (h : a ∈ l.modify i f) : a ∈ l ∨ ∃ b, l[i]? = some b ∧ a = f b := by
  obtain ⟨k, hk⟩ := List.mem_iff_getElem?.1 h
  rw [List.getElem?_modify] at hk
  by_cases e : i = k
  · subst e
    simp only [if_true] at hk
    obtain ⟨b, hb, rfl⟩ := Option.map_eq_some_iff.1 hk
    exact .inr ⟨b, hb, rfl⟩
  · simp only [e, if_false] at hk
    obtain ⟨b, hb, rfl⟩ := Option.map_eq_some_iff.1 hk
    exact .inl (List.mem_iff_getElem?.2 ⟨k, hb⟩)
theorem findIdx_get {β : Type} {p : β → Bool} {l : List β} {i : Nat} (h : l.findIdx? p = some i) : ∃ a, l[i]? = some a ∧ p a = true := by
  obtain ⟨h1, h2, _⟩ := List.findIdx?_eq_some_iff_getElem.1 h
  exact ⟨l[i], by simp [h1], h2⟩
theorem Once.note {s : Pst Int} {laid ended : Nat → Nat} (h : Once s laid ended) (name : ByteArray) {x : Int} (h1 : 100 ≤ x) (h2 : x < 140) : Once (s.note name x).2 laid ended := by
  unfold Pst.note
  cases hn : s.noteAt name with
  | some i =>
    obtain ⟨a, ha, hp⟩ := findIdx_get hn
    have hac : a.call = false := by unfold isN at hp; simp at hp; exact hp.1
    have hcm : ∀ k, List.countP (isJ (numI k)) (s.q.modify i fun j => { j with x := x }) = List.countP (isJ (numI k)) s.q := fun k => countP_modify _ _ _ _ (fun a => rfl)
    refine ⟨h.len, by simpa using h.le, ?_, h.us, ?_, ?_⟩
    · intro j hj
      rcases mem_modify hj with hj | ⟨b, hb, rfl⟩
      · exact h.q j hj
      · rw [ha] at hb; injection hb with hb; subst hb
        exact (h.q a (List.mem_iff_getElem?.2 ⟨i, ha⟩)).put hac h1 h2
    · intro k hk; unfold Pst.cnt; dsimp only; rw [hcm]; exact h.sum k hk
    · intro k hk; unfold Pst.cnt; dsimp only; rw [hcm]; exact h.one k hk
  | none =>
    dsimp only
    unfold Pst.lay
    by_cases hl : 64 ≤ s.q.length
    · rw [if_pos hl]; exact h
    · rw [if_neg hl]
      have hcm : ∀ k, List.countP (isJ (numI k)) (s.q ++ [(⟨false, ⟨0, ⟨#[]⟩⟩, name, x, false⟩ : Job Int)]) = List.countP (isJ (numI k)) s.q := fun k => by
        rw [List.countP_append, List.countP_singleton, isJ_note rfl]; rfl
      refine ⟨h.len, by simp; omega, ?_, h.us, ?_, ?_⟩
      · intro j hj
        rcases List.mem_append.1 hj with hj | hj
        · exact h.q j hj
        · rw [List.mem_singleton] at hj; subst hj; exact .inr ⟨rfl, h1, h2⟩
      · intro k hk; unfold Pst.cnt; dsimp only; rw [hcm]; exact h.sum k hk
      · intro k hk; unfold Pst.cnt; dsimp only; rw [hcm]; exact h.one k hk
theorem Once.take {s : Pst Int} {laid ended : Nat → Nat} (h : Once s laid ended) (w : Nat) : Once (s.take w).2 laid ended := by
  unfold Pst.take
  split
  · rename_i j r hu hq
    have hcm : ∀ k, List.countP (isJ (numI k)) r + List.countP (isU (numI k)) (s.us.set w (some j)) = s.cnt k := fun k => by
      have h1 := countP_set (isU (numI k)) s.us w none (some j) hu
      unfold Pst.cnt; rw [hq, List.countP_cons]
      have e1 : isU (numI k) (some j) = isJ (numI k) j := rfl
      have e2 : isU (numI k) (none : Option (Job Int)) = false := rfl
      rw [e1, e2] at h1
      simp at h1 ⊢; omega
    refine ⟨by simpa using h.len, by have := h.le; rw [hq] at this; simp at this ⊢; omega, fun a ha => h.q a (by rw [hq]; exact List.mem_cons_of_mem _ ha), ?_, ?_, ?_⟩
    · intro a ha
      rcases List.mem_or_eq_of_mem_set ha with ha | ha
      · exact h.us a ha
      · injection ha with ha; subst ha; exact h.q a (by rw [hq]; exact List.mem_cons_self ..)
    · intro k hk; have := h.sum k hk; show List.countP _ r + List.countP _ _ + _ = _; rw [hcm]; exact this
    · intro k hk; have := h.one k hk; show List.countP _ r + List.countP _ _ ≤ _; rw [hcm]; exact this
  · exact h
theorem Once.done {s : Pst Int} {laid ended : Nat → Nat} (h : Once s laid ended) (w : Nat) : ((s.done w).1 = none ∧ (s.done w).2 = s) ∨ (∃ j, (s.done w).1 = some j ∧ 100 ≤ j.x ∧ j.x < 140 ∧ Once (s.done w).2 laid ended) ∨ (∃ j k, (s.done w).1 = some j ∧ j.x = ((k : Nat) : Int) ∧ k < 40 ∧ Once (s.done w).2 laid (up ended k)) := by
  unfold Pst.done
  split
  · rename_i j hu
    right
    have hj := h.us j (List.mem_iff_getElem?.2 ⟨w, hu⟩)
    have hcm : ∀ k, List.countP (isU (numI k)) (s.us.set w none) + (if isJ (numI k) j then 1 else 0) = List.countP (isU (numI k)) s.us := fun k => by
      have h1 := countP_set (isU (numI k)) s.us w (some j) none hu
      have e1 : isU (numI k) (some j) = isJ (numI k) j := rfl
      have e2 : isU (numI k) (none : Option (Job Int)) = false := rfl
      rw [e1, e2] at h1
      simp at h1 ⊢; omega
    have hus : ∀ a, some a ∈ s.us.set w none → okJ a := fun a ha => by
      rcases List.mem_or_eq_of_mem_set ha with ha | ha
      · exact h.us a ha
      · cases ha
    rcases hj with ⟨hc, k, hk, hid, hx⟩ | ⟨hc, hx1, hx2⟩
    · right
      refine ⟨j, k, rfl, hx, hk, by simpa using h.len, h.le, h.q, hus, ?_, ?_⟩
      · intro i hi
        have h1 := h.sum i hi
        have h2 := hcm i
        rw [isJ_num hi hk hc hid] at h2
        unfold Pst.cnt at h1
        show List.countP (isJ (numI i)) s.q + List.countP (isU (numI i)) (s.us.set w none) + up ended k i = laid i
        unfold up
        by_cases e : i = k
        · subst e; simp at h2 ⊢; omega
        · rw [if_neg e]; rw [if_neg (by simp; omega)] at h2; omega
      · intro i hi
        have h1 := h.one i hi
        have h2 := hcm i
        unfold Pst.cnt at h1
        show List.countP (isJ (numI i)) s.q + List.countP (isU (numI i)) (s.us.set w none) ≤ 1
        omega
    · left
      refine ⟨j, rfl, hx1, hx2, by simpa using h.len, h.le, h.q, hus, ?_, ?_⟩
      · intro i hi
        have h1 := h.sum i hi
        have h2 := hcm i
        rw [isJ_note hc] at h2
        unfold Pst.cnt at h1
        show List.countP (isJ (numI i)) s.q + List.countP (isU (numI i)) (s.us.set w none) + ended i = laid i
        simp at h2; omega
      · intro i hi
        have h1 := h.one i hi
        have h2 := hcm i
        unfold Pst.cnt at h1
        show List.countP (isJ (numI i)) s.q + List.countP (isU (numI i)) (s.us.set w none) ≤ 1
        omega
  · exact .inl ⟨rfl, rfl⟩
theorem Once.cancel {s : Pst Int} {laid ended : Nat → Nat} (h : Once s laid ended) {k : Nat} (hk : k < 40) : ((s.cancel (numI k)).1 = false ∧ Once (s.cancel (numI k)).2 laid ended) ∨ ((s.cancel (numI k)).1 = true ∧ Once (s.cancel (numI k)).2 laid (up ended k)) := by
  unfold Pst.cancel
  cases hw : s.waiting (numI k) with
  | some i =>
    right
    obtain ⟨a, ha, hp⟩ := findIdx_get hw
    have hac : a.call = true := by unfold isJ at hp; simp at hp; exact hp.1
    have hm : a ∈ s.q := List.mem_iff_getElem?.2 ⟨i, ha⟩
    have hid : a.id = numI k := by
      rcases h.q a hm with ⟨_, t, ht, e, _⟩ | h1
      · rw [isJ_num hk ht hac e] at hp; simp at hp; subst hp; exact e
      · rw [hac] at h1; cases h1.1
    have hcm : ∀ j, List.countP (isJ (numI j)) (s.q.eraseIdx i) + (if isJ (numI j) a then 1 else 0) = List.countP (isJ (numI j)) s.q := fun j => countP_erase _ _ _ _ ha
    refine ⟨rfl, h.len, ?_, fun j hj => h.q j (List.mem_of_mem_eraseIdx hj), h.us, ?_, ?_⟩
    · have := h.le; have := List.length_eraseIdx_le (l := s.q) (i := i); show (s.q.eraseIdx i).length ≤ 64; omega
    · intro j hj
      have h1 := h.sum j hj
      have h2 := hcm j
      rw [isJ_num hj hk hac hid] at h2
      unfold Pst.cnt at h1
      show List.countP _ (s.q.eraseIdx i) + List.countP _ s.us + up ended k j = _
      unfold up
      by_cases e : j = k
      · subst e; simp at h2 ⊢; omega
      · rw [if_neg e]; rw [if_neg (by simp; omega)] at h2; omega
    · intro j hj
      have h1 := h.one j hj
      have h2 := hcm j
      unfold Pst.cnt at h1
      show List.countP _ (s.q.eraseIdx i) + List.countP _ s.us ≤ 1
      omega
  | none =>
    left
    dsimp only
    cases hu : s.under (numI k) with
    | none => exact ⟨rfl, h⟩
    | some i =>
      have hcm : ∀ j, List.countP (isU (numI j)) (s.us.modify i (Option.map (fun j => { j with can := true }))) = List.countP (isU (numI j)) s.us := fun j => countP_modify _ _ _ _ (fun a => by cases a <;> rfl)
      refine ⟨rfl, by simpa using h.len, h.le, h.q, ?_, ?_, ?_⟩
      · intro j hj
        rcases mem_modify hj with hj | ⟨b, hb, e⟩
        · exact h.us j hj
        · cases b with
          | none => cases e
          | some b =>
            injection e with e; subst e
            exact h.us b (List.mem_iff_getElem?.2 ⟨i, hb⟩)
      · intro j hj; have := h.sum j hj; unfold Pst.cnt at this ⊢; dsimp only; rw [hcm]; exact this
      · intro j hj; have := h.one j hj; unfold Pst.cnt at this ⊢; dsimp only; rw [hcm]; exact this
/-- the rounds at the end: what is left -/
structure Ebb (s : Pst Int) (i : Nat) : Prop where
  q : s.q.length ≤ 64 - i
  us : ∀ r, 64 ≤ r → r < i → s.us[r % 4]? = some none
theorem Ebb.step {s : Pst Int} {i : Nat} (h : Ebb s i) (hl : s.us.length = 4) : Ebb ((s.done (i % 4)).2.take (i % 4)).2 (i + 1) := by
  obtain ⟨o, ho⟩ : ∃ o, s.us[i % 4]? = some o := ⟨_, List.getElem?_eq_getElem (by rw [hl]; exact Nat.mod_lt _ (by decide))⟩
  have h1 : ((s.done (i % 4)).2).q = s.q ∧ ((s.done (i % 4)).2).us = s.us.set (i % 4) none := by
    unfold Pst.done
    rw [ho]
    cases o with
    | none =>
      refine ⟨rfl, ?_⟩
      dsimp only
      apply List.ext_getElem?
      intro k
      rw [List.getElem?_set]
      by_cases e : i % 4 = k
      · subst e; rw [if_pos rfl, ho]; simp [hl, Nat.mod_lt]
      · rw [if_neg e]
    | some j => exact ⟨rfl, rfl⟩
  generalize hs1 : (s.done (i % 4)).2 = s1 at h1
  obtain ⟨e1, e2⟩ := h1
  have hn : s1.us[i % 4]? = some none := by rw [e2, List.getElem?_set]; simp [hl, Nat.mod_lt]
  unfold Pst.take
  rw [hn]
  cases hq : s1.q with
  | nil =>
    dsimp only
    refine ⟨by rw [hq]; simp, fun r h2 h3 => ?_⟩
    rw [e2, List.getElem?_set]
    by_cases e : i % 4 = r % 4
    · rw [if_pos e]; simp [← e, hl, Nat.mod_lt]
    · rw [if_neg e]; exact h.us r h2 (by rcases Nat.lt_or_ge r i with h4 | h4; exact h4; exact absurd (by rw [show i = r by omega]) e)
  | cons j r =>
    dsimp only
    have hlen : r.length + 1 ≤ 64 - i := by have := h.q; rw [← e1, hq] at this; simpa using this
    exact ⟨by show r.length ≤ _; omega, fun k h2 h3 => by omega⟩
theorem Once.ebb {s : Pst Int} {laid ended : Nat → Nat} (h : Once s laid ended) : Ebb s 0 := ⟨h.le, fun r h1 h2 => by omega⟩
theorem Once.end {s : Pst Int} {laid ended : Nat → Nat} (h : Once s laid ended) (hb : Ebb s 200) : s.q = [] ∧ ∀ k, k < 40 → ended k = laid k := by
  have hq : s.q = [] := List.eq_nil_of_length_eq_zero (by have := hb.q; omega)
  have hu : ∀ o ∈ s.us, o = none := fun o ho => by
    obtain ⟨k, hk⟩ := List.mem_iff_getElem?.1 ho
    have h4 : k < 4 := by have := (List.getElem?_eq_some_iff.1 hk).1; have := h.len; omega
    have := hb.us (64 + k) (by omega) (by omega)
    rw [show (64 + k) % 4 = k by omega, hk] at this
    injection this
  refine ⟨hq, fun k hk => ?_⟩
  have h1 := h.sum k hk
  have h2 : s.cnt k = 0 := by
    unfold Pst.cnt
    rw [hq]
    have : s.us.countP (isU (numI k)) = 0 := List.countP_eq_zero.2 (fun o ho => by rw [hu o ho]; simp [isU])
    rw [this]; rfl
  omega
/-! ## PoolOrder -/
def nm (n : Nat) : ByteArray := ⟨#[UInt8.ofNat (97 + n)]⟩
theorem nm_ne {a b : Nat} (ha : a < 3) (hb : b < 3) (h : a ≠ b) : nm a ≠ nm b := by
  intro e
  have e1 : UInt8.ofNat (97 + a) = UInt8.ofNat (97 + b) := by
    unfold nm at e; injection e with e; injection e with e; injection e
  have e2 := congrArg UInt8.toNat e1
  simp at e2
  omega
structure Ord (s : Pst Int) (i : Nat) (want : List Int) (place : Nat → Int) : Prop where
  us : s.us = [none]
  q : s.q.map Job.x = want
  can : ∀ j ∈ s.q, j.can = false
  le : s.q.length ≤ i
  call : ∀ j ∈ s.q, j.call = true → ∃ t : Nat, t < i ∧ j.id = numI t
  place : ∀ n, n < 3 → (place n < 0 ∧ s.noteAt (nm n) = none) ∨ ∃ k : Nat, place n = k ∧ s.noteAt (nm n) = some k
theorem Ord.new : Ord (Pst.new 1) 0 [] (fun _ => -1) := ⟨rfl, rfl, (fun j h => by cases h), Nat.le_refl _, (fun j h => by cases h), fun n _ => .inl ⟨by decide, rfl⟩⟩
def upI (f : Nat → Int) (n : Nat) (v : Int) : Nat → Int := fun i => if i = n then v else f i
theorem Ord.has {s : Pst Int} {i : Nat} {want : List Int} {place : Nat → Int} (h : Ord s i want place) {k : Nat} (hi : i ≤ k) (hk : k < 100) : s.has (numI k) = false := by
  unfold Pst.has
  rw [h.us]
  have : s.q.any (isJ (numI k)) = false := by
    rw [List.any_eq_false]
    intro j hj
    cases hc : j.call with
    | false => simp [isJ_note hc]
    | true =>
      obtain ⟨t, ht, hid⟩ := h.call j hj hc
      unfold isJ
      rw [hc, hid, numI_same (by omega) hk]
      simp; omega
  rw [this]; rfl
theorem noteAt_more (s : Pst Int) (us : List (Option (Job Int))) (j : Job Int) (name : ByteArray) (h : isN name j = false) : noteAt ⟨s.q ++ [j], us⟩ name = s.noteAt name := by
  unfold noteAt
  dsimp only
  rw [List.findIdx?_append]
  have : List.findIdx? (isN name) [j] = none := by simp [List.findIdx?_cons, h]
  rw [this]
  cases List.findIdx? (isN name) s.q <;> rfl
theorem noteAt_self (s : Pst Int) (us : List (Option (Job Int))) (j : Job Int) (name : ByteArray) (h : isN name j = true) (h0 : s.noteAt name = none) : noteAt ⟨s.q ++ [j], us⟩ name = some s.q.length := by
  unfold noteAt at h0 ⊢
  dsimp only
  rw [List.findIdx?_append, h0]
  simp [List.findIdx?_cons, h]
theorem findIdx_modify {β : Type} (p : β → Bool) (f : β → β) (h : ∀ a, p (f a) = p a) (l : List β) (i : Nat) : (l.modify i f).findIdx? p = l.findIdx? p := by
  induction l generalizing i with
  | nil => rw [List.modify_nil]
  | cons c r ih =>
    cases i with
    | zero => simp [List.findIdx?_cons, h]
    | succ i => simp [List.findIdx?_cons, ih i]
theorem Ord.lay {s : Pst Int} {i : Nat} {want : List Int} {place : Nat → Int} (h : Ord s i want place) (hi : i < 60) : (s.call (numI i) i).1 = 0 ∧ Ord (s.call (numI i) i).2 (i + 1) (want ++ [(i : Int)]) place := by
  unfold Pst.call
  rw [h.has (Nat.le_refl _) (by omega), numI_same (by omega) (by omega)]
  simp only [decide_true, Bool.not_true, Bool.or_false, Bool.false_eq_true, if_false]
  unfold Pst.lay
  rw [if_neg (by have := h.le; omega)]
  refine ⟨rfl, h.us, ?_, ?_, ?_, ?_, ?_⟩
  · show (s.q ++ [_]).map Job.x = _; rw [List.map_append, h.q]; rfl
  · intro j hj
    rcases List.mem_append.1 hj with hj | hj
    · exact h.can j hj
    · rw [List.mem_singleton] at hj; subst hj; rfl
  · have := h.le; show (s.q ++ [_]).length ≤ _; simp; omega
  · intro j hj hc
    rcases List.mem_append.1 hj with hj | hj
    · obtain ⟨t, h1, h2⟩ := h.call j hj hc; exact ⟨t, by omega, h2⟩
    · rw [List.mem_singleton] at hj; subst hj; exact ⟨i, by omega, rfl⟩
  · intro n hn
    have := h.place n hn
    rw [noteAt_more s s.us _ (nm n) rfl]
    exact this
theorem Ord.old {s : Pst Int} {i : Nat} {want : List Int} {place : Nat → Int} (h : Ord s i want place) {n k : Nat} (hn : n < 3) (hp : place n = (k : Int)) : (s.note (nm n) i).1 = 0 ∧ k < want.length ∧ Ord (s.note (nm n) i).2 (i + 1) (want.set k (i : Int)) place := by
  rcases h.place n hn with h0 | ⟨k', h1, h2⟩
  · omega
  · obtain rfl : k' = k := by omega
    obtain ⟨a, ha, hp⟩ := findIdx_get h2
    unfold Pst.note
    rw [h2]
    have hk : k' < s.q.length := (List.getElem?_eq_some_iff.1 ha).1
    refine ⟨rfl, by rw [← h.q, List.length_map]; exact hk, h.us, ?_, ?_, ?_, ?_, ?_⟩
    · show (s.q.modify k' _).map Job.x = _
      rw [← h.q]
      apply List.ext_getElem?
      intro m
      rw [List.getElem?_map, List.getElem?_modify, List.getElem?_set]
      by_cases e : k' = m
      · subst e
        simp [hk]
      · simp [e]
    · intro j hj
      rcases mem_modify hj with hj | ⟨b, hb, rfl⟩
      · exact h.can j hj
      · exact h.can b (List.mem_iff_getElem?.2 ⟨k', hb⟩)
    · show (s.q.modify k' _).length ≤ _; have := h.le; simp; omega
    · intro j hj hc
      rcases mem_modify hj with hj | ⟨b, hb, rfl⟩
      · obtain ⟨t, h1, h2⟩ := h.call j hj hc; exact ⟨t, by omega, h2⟩
      · obtain ⟨t, h1, h2⟩ := h.call b (List.mem_iff_getElem?.2 ⟨k', hb⟩) hc; exact ⟨t, by omega, h2⟩
    · intro m hm
      have := h.place m hm
      have e : noteAt ⟨s.q.modify k' (fun j => { j with x := (i : Int) }), s.us⟩ (nm m) = s.noteAt (nm m) := findIdx_modify (isN (nm m)) (fun j : Job Int => { j with x := (i : Int) }) (fun _ => rfl) s.q k'
      rw [e]; exact this
theorem Ord.fresh {s : Pst Int} {i : Nat} {want : List Int} {place : Nat → Int} (h : Ord s i want place) (hi : i < 60) {n : Nat} (hn : n < 3) (hp : place n < 0) : (s.note (nm n) i).1 = 0 ∧ Ord (s.note (nm n) i).2 (i + 1) (want ++ [(i : Int)]) (upI place n want.length) := by
  rcases h.place n hn with ⟨_, h0⟩ | ⟨k', h1, h2⟩
  · unfold Pst.note
    rw [h0]
    dsimp only
    unfold Pst.lay
    rw [if_neg (by have := h.le; omega)]
    refine ⟨rfl, h.us, ?_, ?_, ?_, ?_, ?_⟩
    · show (s.q ++ [_]).map Job.x = _; rw [List.map_append, h.q]; rfl
    · intro j hj
      rcases List.mem_append.1 hj with hj | hj
      · exact h.can j hj
      · rw [List.mem_singleton] at hj; subst hj; rfl
    · have := h.le; show (s.q ++ [_]).length ≤ _; simp; omega
    · intro j hj hc
      rcases List.mem_append.1 hj with hj | hj
      · obtain ⟨t, h1, h2⟩ := h.call j hj hc; exact ⟨t, by omega, h2⟩
      · rw [List.mem_singleton] at hj; subst hj; cases hc
    · intro m hm
      by_cases e : m = n
      · subst e
        right
        refine ⟨want.length, by unfold upI; rw [if_pos rfl], ?_⟩
        rw [noteAt_self s s.us _ (nm m) (by simp [isN]) h0, ← h.q, List.length_map]
      · have := h.place m hm
        unfold upI
        rw [if_neg e]
        rw [noteAt_more s s.us _ (nm m) (by simp [isN]; exact fun e' => nm_ne hn hm (fun e2 => e e2.symm) e')]
        exact this
  · omega
/-- the second loop -/
structure Out (s : Pst Int) (l : List (Job Int)) : Prop where
  us : s.us = [none]
  q : s.q = l
theorem Out.step {s : Pst Int} {j : Job Int} {r : List (Job Int)} (h : Out s (j :: r)) : (s.take 0).1 = true ∧ ((s.take 0).2.done 0).1 = some j ∧ Out ((s.take 0).2.done 0).2 r := by
  obtain ⟨q, us⟩ := s
  obtain ⟨rfl, rfl⟩ := h
  exact ⟨rfl, rfl, rfl, rfl⟩
theorem Out.last {s : Pst Int} (h : Out s []) : (s.take 0).1 = false := by
  obtain ⟨q, us⟩ := s
  obtain ⟨rfl, rfl⟩ := h
  rfl
/-! ## PoolEnds -/
/-- the calls that are laid down -/
structure Laid (s : Pst Int) (n i : Nat) : Prop where
  us : s.us = List.replicate n none
  le : s.q.length = i
  call : ∀ j ∈ s.q, j.call = true → ∃ t : Nat, t < i ∧ j.id = numI t
theorem Laid.new (n : Nat) : Laid (Pst.new n) n 0 := ⟨rfl, rfl, (fun j h => by cases h)⟩
theorem us_none {n : Nat} {id : LId} : (List.replicate n (none : Option (Job Int))).any (isU id) = false := by
  rw [List.any_eq_false]; intro o ho; rw [List.mem_replicate] at ho; rw [ho.2]; simp [isU]
theorem Laid.step {s : Pst Int} {n i : Nat} (h : Laid s n i) (hi : i < 64) : (s.call (numI i) i).1 = 0 ∧ Laid (s.call (numI i) i).2 n (i + 1) := by
  have hh : s.has (numI i) = false := by
    unfold Pst.has
    rw [h.us, us_none]
    have : s.q.any (isJ (numI i)) = false := by
      rw [List.any_eq_false]
      intro j hj
      cases hc : j.call with
      | false => simp [isJ_note hc]
      | true =>
        obtain ⟨t, ht, hid⟩ := h.call j hj hc
        unfold isJ
        rw [hc, hid, numI_same (by omega) (by omega)]
        simp; omega
    rw [this]; rfl
  unfold Pst.call
  rw [hh, numI_same (by omega) (by omega)]
  simp only [decide_true, Bool.not_true, Bool.or_false, Bool.false_eq_true, if_false]
  unfold Pst.lay
  rw [if_neg (by have := h.le; omega)]
  refine ⟨rfl, h.us, by show (s.q ++ [_]).length = _; rw [List.length_append, h.le]; rfl, ?_⟩
  intro j hj hc
  rcases List.mem_append.1 hj with hj | hj
  · obtain ⟨t, h1, h2⟩ := h.call j hj hc; exact ⟨t, by omega, h2⟩
  · rw [List.mem_singleton] at hj; subst hj; exact ⟨i, by omega, rfl⟩
/-- how much is to be done: two steps a job that waits, one for each under way -/
def pot (s : Pst Int) : Nat := 2 * s.q.length + s.many
theorem many_set (s : Pst Int) (w : Nat) (o o' : Option (Job Int)) (h : s.us[w]? = some o) : List.countP Option.isSome (s.us.set w o') + (if o.isSome then 1 else 0) = s.many + (if o'.isSome then 1 else 0) := countP_set _ _ _ _ _ h
/-- a round: what a worker does -/
def round (s : Pst Int) (w : Nat) : Bool × Pst Int := match (s.done w).1 with
  | some _ => (true, (s.done w).2)
  | none => (s.done w).2.take w
theorem round_pot {s : Pst Int} {w : Nat} (hw : w < s.us.length) : ((s.round w).1 = true ∧ (s.round w).2.pot + 1 = s.pot ∧ (s.round w).2.us.length = s.us.length) ∨ ((s.round w).1 = false ∧ (s.round w).2 = s ∧ s.q = [] ∧ s.us[w]? = some none) := by
  obtain ⟨o, ho⟩ : ∃ o, s.us[w]? = some o := ⟨_, List.getElem?_eq_getElem hw⟩
  unfold round Pst.done
  rw [ho]
  cases o with
  | some j =>
    left
    refine ⟨rfl, ?_, by show (s.us.set w none).length = _; simp⟩
    have := many_set s w (some j) none ho
    show 2 * s.q.length + List.countP Option.isSome (s.us.set w none) + 1 = 2 * s.q.length + s.many
    simp at this; omega
  | none =>
    dsimp only
    unfold Pst.take
    rw [ho]
    cases hq : s.q with
    | nil => right; exact ⟨rfl, rfl, rfl, rfl⟩
    | cons j r =>
      left
      refine ⟨rfl, ?_, by show (s.us.set w (some j)).length = _; simp⟩
      have := many_set s w none (some j) ho
      show 2 * r.length + List.countP Option.isSome (s.us.set w (some j)) + 1 = 2 * s.q.length + s.many
      rw [hq]; simp at this ⊢; omega
/-- the loop: steps so far, and how many rounds have been idle -/
structure Goes (s : Pst Int) (n m i steps : Nat) : Prop where
  len : s.us.length = n
  sum : steps + s.pot = 2 * m
  idle : i ≤ 500 ∨ ∃ r, r ≤ i - 500 ∧ i ≤ 500 + 4 * (2 * m - s.pot) + r ∧ (∀ t, i - r ≤ t → t < i → s.us[t % n]? = some none) ∧ (0 < r → s.q = [])
theorem Laid.goes {s : Pst Int} {n m : Nat} (h : Laid s n m) : Goes s n m 0 0 := ⟨by rw [h.us]; simp, by
  unfold pot Pst.many; rw [h.le, h.us]
  have : List.countP Option.isSome (List.replicate n (none : Option (Job Int))) = 0 := List.countP_eq_zero.2 (fun o ho => by rw [List.mem_replicate] at ho; rw [ho.2]; simp)
  omega, .inl (by omega)⟩
theorem Goes.few {s : Pst Int} {n m i steps : Nat} (h : Goes s n m i steps) (hn : 0 < n) (hn4 : n ≤ 4) (hp : 0 < s.pot) {r : Nat} (hr : r ≤ i - 500) (h7 : ∀ t, i - r ≤ t → t < i → s.us[t % n]? = some none) (h8 : 0 < r → s.q = []) : r ≤ 3 := by
  rcases Nat.lt_or_ge r n with h1 | h1
  · omega
  · exfalso
    have hq := h8 (by omega)
    have hu : ∀ o ∈ s.us, o = none := fun o ho => by
      obtain ⟨k, hk⟩ := List.mem_iff_getElem?.1 ho
      have hkn : k < n := by have := (List.getElem?_eq_some_iff.1 hk).1; have := h.len; omega
      -- a t in [i - n, i) with t % n = k
      have hin : n ≤ i := by omega
      have hb := Nat.mod_lt (i - n) hn
      have hd := Nat.div_add_mod (i - n) n
      obtain ⟨t, h1, h2, h3⟩ : ∃ t, i - n ≤ t ∧ t < i ∧ t % n = k := by
        generalize (i - n) % n = b at hb hd
        generalize (i - n) / n = a at hd
        rcases Nat.lt_or_ge k b with hkb | hkb
        · refine ⟨n * (a + 1) + k, ?_, ?_, ?_⟩
          · rw [Nat.mul_add]; omega
          · rw [Nat.mul_add]; omega
          · rw [Nat.mul_add_mod]; exact Nat.mod_eq_of_lt hkn
        · refine ⟨n * a + k, by omega, by omega, ?_⟩
          rw [Nat.mul_add_mod]; exact Nat.mod_eq_of_lt hkn
      have := h7 t (by omega) h2
      rw [h3, hk] at this
      injection this
    have : s.pot = 0 := by
      unfold pot Pst.many
      rw [hq]
      have : List.countP Option.isSome s.us = 0 := List.countP_eq_zero.2 (fun o ho => by rw [hu o ho]; simp)
      rw [this]; rfl
    omega
theorem Goes.step {s : Pst Int} {n m i steps w : Nat} (h : Goes s n m i steps) (hn : 0 < n) (hn4 : n ≤ 4) (hp : 0 < s.pot) (hw : w < n) (hi : 500 ≤ i → w = i % n) : Goes (s.round w).2 n m (i + 1) (if (s.round w).1 = true then steps + 1 else steps) := by
  rcases round_pot (s := s) (w := w) (by rw [h.len]; exact hw) with ⟨h1, h2, h3⟩ | ⟨h1, h2, h3, h4⟩
  · rw [if_pos h1]
    refine ⟨h3.trans h.len, by have := h.sum; omega, ?_⟩
    rcases h.idle with h5 | ⟨r, h5, h6, h7, h8⟩
    · rcases Nat.lt_or_ge i 500 with h9 | h9
      · exact .inl (by omega)
      · right
        refine ⟨0, by omega, ?_, fun t a b => by omega, fun a => by omega⟩
        have := h.sum; omega
    · right
      refine ⟨0, by omega, ?_, fun t a b => by omega, fun a => by omega⟩
      have := h.sum
      have := h.few hn hn4 hp h5 h7 h8
      omega
  · rw [if_neg (by rw [h1]; decide), h2]
    refine ⟨h.len, h.sum, ?_⟩
    rcases Nat.lt_or_ge i 500 with h9 | h9
    · exact .inl (by omega)
    · right
      have hwi := hi h9
      obtain ⟨r, h5, h6, h7, h8⟩ : ∃ r, r ≤ i - 500 ∧ i ≤ 500 + 4 * (2 * m - s.pot) + r ∧ (∀ t, i - r ≤ t → t < i → s.us[t % n]? = some none) ∧ (0 < r → s.q = []) := by
        rcases h.idle with h5 | h5
        · exact ⟨0, by omega, by omega, fun t a b => by omega, fun a => by omega⟩
        · exact h5
      refine ⟨r + 1, by omega, by omega, fun t a b => ?_, fun _ => h3⟩
      by_cases e : t = i
      · subst e; rw [← hwi]; exact h4
      · exact h7 t (by omega) (by omega)
theorem Goes.end {s : Pst Int} {n m i steps : Nat} (h : Goes s n m i steps) (hn : 0 < n) (hn4 : n ≤ 4) (hm : m ≤ 64) (hi : 2000 ≤ i) : s.pot = 0 := by
  rcases Nat.eq_zero_or_pos s.pot with hp | hp
  · exact hp
  · exfalso
    rcases h.idle with h5 | ⟨r, h5, h6, h7, h8⟩
    · omega
    · have := h.few hn hn4 hp h5 h7 h8
      omega
/-! ## PoolFull -/
def nmA (n : Nat) : ByteArray := ⟨#[UInt8.ofNat (65 + n)]⟩
theorem nmA_ne {a b : Nat} (ha : a < 100) (hb : b < 100) (h : a ≠ b) : nmA a ≠ nmA b := by
  intro e
  have e1 : UInt8.ofNat (65 + a) = UInt8.ofNat (65 + b) := by
    unfold nmA at e; injection e with e; injection e with e; injection e
  have e2 := congrArg UInt8.toNat e1
  simp at e2
  omega
def fullJ (n t : Nat) : Job Int := if t < n then ⟨false, ⟨0, ⟨#[]⟩⟩, nmA t, t, false⟩ else ⟨true, numI t, ⟨#[]⟩, t, false⟩
def fullS (n i : Nat) : Pst Int := ⟨(List.range i).map (fullJ n), [none, none]⟩
theorem fullJ_isJ {n t k : Nat} (ht : t < 100) (hk : k < 100) : isJ (numI k) (fullJ n t) = (decide (n ≤ t) && decide (t = k)) := by
  unfold fullJ
  by_cases h : t < n
  · rw [if_pos h, decide_eq_false (by omega)]; rfl
  · rw [if_neg h, decide_eq_true (by omega)]; unfold isJ; rw [numI_same ht hk]
theorem fullJ_isN {n t : Nat} (name : ByteArray) : isN name (fullJ n t) = (decide (t < n) && decide (nmA t = name)) := by
  unfold fullJ
  by_cases h : t < n
  · rw [if_pos h, decide_eq_true h]; rfl
  · rw [if_neg h, decide_eq_false h]; rfl
theorem full_has {n i k : Nat} (hi : i ≤ 64) (hk : k < 100) (h : i ≤ k) : (fullS n i).has (numI k) = false := by
  unfold Pst.has fullS
  dsimp only
  have : (List.map (fullJ n) (List.range i)).any (isJ (numI k)) = false := by
    rw [List.any_eq_false]
    intro j hj
    obtain ⟨t, ht, rfl⟩ := List.mem_map.1 hj
    rw [List.mem_range] at ht
    rw [fullJ_isJ (by omega) hk]; simp; omega
  rw [this]; rfl
theorem full_len (n i : Nat) : (fullS n i).q.length = i := by unfold fullS; simp
theorem full_call {n i : Nat} (hi : i < 64) : (fullS n i).call (numI i) i = (0, ⟨(fullS n i).q ++ [⟨true, numI i, ⟨#[]⟩, i, false⟩], [none, none]⟩) := by
  unfold Pst.call
  rw [full_has (by omega) (by omega) (Nat.le_refl _), numI_same (by omega) (by omega)]
  simp only [decide_true, Bool.not_true, Bool.or_false, Bool.false_eq_true, if_false]
  unfold Pst.lay
  rw [if_neg (by rw [full_len]; omega)]; rfl
theorem full_next {n i : Nat} (h : n ≤ i) : (⟨(fullS n i).q ++ [⟨true, numI i, ⟨#[]⟩, i, false⟩], [none, none]⟩ : Pst Int) = fullS n (i + 1) := by
  unfold fullS
  rw [List.range_succ, List.map_append]
  have : fullJ n i = ⟨true, numI i, ⟨#[]⟩, i, false⟩ := by unfold fullJ; rw [if_neg (by omega)]
  simp [this]
theorem full_cancel {n i : Nat} (hi : i < 64) : Pst.cancel (⟨(fullS n i).q ++ [⟨true, numI i, ⟨#[]⟩, i, false⟩], [none, none]⟩ : Pst Int) (numI i) = (true, fullS n i) := by
  unfold Pst.cancel
  have hw : Pst.waiting (⟨(fullS n i).q ++ [⟨true, numI i, ⟨#[]⟩, i, false⟩], [none, none]⟩ : Pst Int) (numI i) = some i := by
    unfold Pst.waiting
    dsimp only
    rw [List.findIdx?_append]
    have h0 : List.findIdx? (isJ (numI i)) (fullS n i).q = none := by
      rw [List.findIdx?_eq_none_iff]
      intro j hj
      obtain ⟨t, ht, rfl⟩ := List.mem_map.1 (show j ∈ (List.range i).map (fullJ n) from hj)
      rw [List.mem_range] at ht
      rw [fullJ_isJ (by omega) (by omega)]; simp; omega
    rw [h0, full_len]
    have : isJ (numI i) (⟨true, numI i, ⟨#[]⟩, (i : Int), false⟩ : Job Int) = true := by unfold isJ; rw [numI_same (by omega) (by omega)]; simp
    simp [List.findIdx?_cons, this]
  rw [hw]
  dsimp only
  rw [List.eraseIdx_append_of_length_le (by rw [full_len]; exact Nat.le_refl _), full_len]
  simp [fullS]
theorem full_noteAt {n i : Nat} (hi : i ≤ 64) (name : ByteArray) (h : ∀ t, t < i → t < n → nmA t ≠ name) : (fullS n i).noteAt name = none := by
  unfold Pst.noteAt
  rw [List.findIdx?_eq_none_iff]
  intro j hj
  obtain ⟨t, ht, rfl⟩ := List.mem_map.1 (show j ∈ (List.range i).map (fullJ n) from hj)
  rw [List.mem_range] at ht
  rw [fullJ_isN]
  by_cases h1 : t < n
  · simp [h t ht h1]
  · simp [h1]
theorem full_note {n i : Nat} (hi : i < n) (hi64 : i < 64) : (fullS n i).note (nmA i) i = (0, fullS n (i + 1)) := by
  unfold Pst.note
  rw [full_noteAt (by omega) _ (fun t h1 _ => nmA_ne (by omega) (by omega) (by omega))]
  dsimp only
  unfold Pst.lay
  rw [if_neg (by rw [full_len]; omega)]
  unfold fullS
  rw [List.range_succ, List.map_append]
  have : fullJ n i = ⟨false, ⟨0, ⟨#[]⟩⟩, nmA i, i, false⟩ := by unfold fullJ; rw [if_pos hi]
  simp [this]
theorem full_90 {n : Nat} : (fullS n 64).call (numI 90) 0 = (7, fullS n 64) := by
  unfold Pst.call
  rw [full_has (by omega) (by omega) (by omega), numI_same (by omega) (by omega)]
  simp only [decide_true, Bool.not_true, Bool.or_false, Bool.false_eq_true, if_false]
  unfold Pst.lay
  rw [if_pos (by rw [full_len]; omega)]
def nmNew : ByteArray := ⟨#[110, 101, 119]⟩
theorem full_new {n : Nat} : (fullS n 64).note nmNew 0 = (7, fullS n 64) := by
  unfold Pst.note
  rw [full_noteAt (by omega) _ (fun t h1 _ e => by unfold nmA nmNew at e; injection e with e; injection e with e; injection e with _ e; cases e)]
  dsimp only
  unfold Pst.lay
  rw [if_pos (by rw [full_len]; omega)]
/-- the full pool, and what the first note's other data make of it -/
structure FullE (n : Nat) (s : Pst Int) : Prop where
  us : s.us = [none, none]
  len : s.q.length = 64
  call : ∀ j ∈ s.q, isJ (numI 90) j = false
theorem full_e (n : Nat) : FullE n (fullS n 64) := ⟨rfl, full_len _ _, fun j hj => by
  obtain ⟨t, ht, rfl⟩ := List.mem_map.1 (show j ∈ (List.range 64).map (fullJ n) from hj)
  rw [List.mem_range] at ht
  rw [fullJ_isJ (by omega) (by omega)]; simp; omega⟩
theorem full_A {n : Nat} (hn : 0 < n) : ((fullS n 64).note (nmA 0) 9).1 = 0 ∧ FullE n ((fullS n 64).note (nmA 0) 9).2 := by
  have h0 : (fullS n 64).noteAt (nmA 0) = some 0 := by
    unfold Pst.noteAt fullS
    dsimp only
    rw [show (64 : Nat) = 63 + 1 by rfl, List.range_succ_eq_map, List.map_cons, List.findIdx?_cons, fullJ_isN]
    simp [hn]
  unfold Pst.note
  rw [h0]
  dsimp only
  refine ⟨rfl, rfl, ?_, ?_⟩
  · dsimp only; rw [List.length_modify]; exact full_len _ _
  · intro j hj
    rcases mem_modify hj with hj | ⟨b, hb, rfl⟩
    · exact (full_e n).call j hj
    · exact (full_e n).call b (List.mem_iff_getElem?.2 ⟨0, hb⟩)
theorem FullE.end {n : Nat} {s : Pst Int} (h : FullE n s) : (s.take 1).1 = true ∧ ((s.take 1).2.call (numI 90) 0).1 = 0 ∧ ((s.take 1).2.call (numI 90) 0).2.q.length = 64 ∧ ((s.take 1).2.call (numI 90) 0).2.many = 1 := by
  obtain ⟨q, us⟩ := s
  obtain ⟨h1, h2, h3⟩ := h
  dsimp only at h1 h2 h3
  subst h1
  cases q with
  | nil => cases h2
  | cons j r =>
    have e : (Pst.take (⟨j :: r, [none, none]⟩ : Pst Int) 1) = (true, ⟨r, [none, some j]⟩) := rfl
    rw [e]
    dsimp only
    have hh : Pst.has (⟨r, [none, some j]⟩ : Pst Int) (numI 90) = false := by
      unfold Pst.has
      dsimp only
      have h4 : r.any (isJ (numI 90)) = false := by
        rw [List.any_eq_false]; intro a ha; rw [h3 a (List.mem_cons_of_mem _ ha)]; decide
      have h5 := h3 j (List.mem_cons_self ..)
      rw [h4]; simp [isU, h5]
    unfold Pst.call
    rw [hh, numI_same (by omega) (by omega)]
    simp only [decide_true, Bool.not_true, Bool.or_false, Bool.false_eq_true, if_false]
    unfold Pst.lay
    have h6 : r.length = 63 := by simpa using h2
    rw [if_neg (by show ¬ 64 ≤ r.length; omega)]
    refine ⟨by trivial, by trivial, by show (r ++ [_]).length = 64; rw [List.length_append, h6]; rfl, rfl⟩
end Pst
end Go.Proofs.YtfploakafbnigaaGreatDoor.Pl
