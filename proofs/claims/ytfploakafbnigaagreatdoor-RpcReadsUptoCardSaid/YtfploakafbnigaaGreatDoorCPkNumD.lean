/-
  Joined texts: NumRefOf NumRefOfAny NumRefSame NumRefInt.
-/
import Derived.Test.YtfploakafbnigaaGreatDoorCPkNumC
import Derived.WalkKit
import Derived.WalkSpells
import Derived.WalkLawsBesides
import Derived.BigQuiet
import Derived.Deep.QuietTactic
import Derived.Deep.DeepCutAuto
import Derived.Deep.CutBlock
import Derived.Deep.RegionLaw
import Derived.Deep.AppendLies
import Derived.Deep.DeepFit
import Derived.Lib.Hide
import Derived.Lib.ConvBytes
namespace Go.Proofs.YtfploakafbnigaaGreatDoor
open Go.RowKit Num
set_option linter.unusedVariables false
set_option linter.unusedSimpArgs false
/-- colophonref09.Check at []byte(s), 0. -/
theorem refCheck_bytes (s : ByteArray) (l : List UInt8) (h : s.data.toList = l) (w : World) (g c : Nat) (hg : w.heap.size = g) (hn : l.length ≤ 9223372036854775800) :
    Calls Tryz.prog 210 #[.slice (some ⟨g, 0, none⟩) s.size c, .int .i64 0] (Lib.bytesWorld w 5 s) fun e w' => e = .returned (.tuple #[.int .i64 (checkN l 0).1, .int .i64 (checkN l 0).2]) ∧ Lib.bytesWorld w 5 s = w' := by
  subst hg
  have hs : s.size = l.length := by rw [← h, list_len]
  rw [hs]
  have := refCheck_any c (w.heap.size + 1) (some ⟨w.heap.size, 0, none⟩) l 0 (Lib.bytesWorld w 5 s) (bytes_RB w s l h _ (by omega)) hn
  refine this.mono ?_
  rintro e w' ⟨rfl, rfl⟩
  have e0 : check l 0 = checkN l 0 := by unfold check; rw [if_neg (by omega)]; rfl
  rw [e0]
  exact ⟨rfl, rfl⟩
/-! ### what the loop over the bytes comes to -/
structure St where
  D : List UInt8
  bh : Nat
  pt : Bool
def St.step (s : St) (c : UInt8) : St := if c = 46 then ⟨s.D, s.bh, true⟩ else if isD c then ⟨s.D ++ [c], if s.pt then s.bh + 1 else s.bh, s.pt⟩ else s
def stA (l : List UInt8) : St := l.foldl St.step ⟨[], 0, false⟩
theorem stA_snoc (l : List UInt8) (c : UInt8) : stA (l ++ [c]) = (stA l).step c := by unfold stA; rw [List.foldl_append]; rfl
theorem fold_digs (s : St) (r : List UInt8) (hr : Digs r) : r.foldl St.step s = ⟨s.D ++ r, if s.pt then s.bh + r.length else s.bh, s.pt⟩ := by
  induction r generalizing s with
  | nil => obtain ⟨D, b, p⟩ := s; cases p <;> simp
  | cons c r ih =>
    have hc := hr c (List.mem_cons_self ..)
    have h46 : c ≠ 46 := by intro e; subst e; cases hc
    rw [List.foldl_cons, ih _ (fun x hx => hr x (List.mem_cons_of_mem _ hx))]
    unfold St.step
    rw [if_neg h46, if_pos hc]
    obtain ⟨D, b, p⟩ := s
    cases p
    · simp
    · simp only [if_true, List.append_assoc, List.singleton_append, List.length_cons]
      congr 1
      omega
theorem stA_form {g a f : List UInt8} (hg : NegF g) (ha : Digs a) (hf : FracF f) : (stA (g ++ (a ++ f))).D = a ++ f.drop 1 ∧ (stA (g ++ (a ++ f))).bh = (f.drop 1).length := by
  have h0 : stA (g ++ (a ++ f)) = (a ++ f).foldl St.step ⟨[], 0, false⟩ := by
    rcases hg with e | e <;> subst e <;> rfl
  rw [h0, List.foldl_append, fold_digs _ _ ha]
  rcases hf with e | ⟨r, e, _, hr⟩ <;> subst e
  · simp
  · rw [List.foldl_cons, show St.step ⟨[] ++ a, if (⟨[], 0, false⟩ : St).pt then (⟨[], 0, false⟩ : St).bh + a.length else (⟨[], 0, false⟩ : St).bh, (⟨[], 0, false⟩ : St).pt⟩ 46 = ⟨a, 0, true⟩ by unfold St.step; simp, fold_digs _ _ hr]
    simp
theorem stA_len (l : List UInt8) : (stA l).D.length ≤ l.length ∧ (stA l).bh ≤ l.length := by
  induction hn : l.length generalizing l with
  | zero => have := List.eq_nil_of_length_eq_zero hn; subst this; exact ⟨Nat.le_refl _, Nat.le_refl _⟩
  | succ n ih =>
    have hne : l ≠ [] := by intro e; subst e; cases hn
    obtain ⟨r, c, rfl⟩ : ∃ r c, l = r ++ [c] := ⟨l.dropLast, l.getLast hne, (List.dropLast_concat_getLast hne).symm⟩
    have h := ih r (by simpa using hn)
    rw [stA_snoc]
    unfold St.step
    split
    · exact ⟨by show (stA r).D.length ≤ _; omega, by show (stA r).bh ≤ _; omega⟩
    · split
      · refine ⟨by simp; omega, ?_⟩
        show (if (stA r).pt then (stA r).bh + 1 else (stA r).bh) ≤ _
        split <;> omega
      · exact ⟨by omega, by omega⟩
/-! ### memory -/
def PB (w : World) (g : Nat) (a b c : Value) : Prop := w.heap[g]? = some (.cells #[a, b, c] 221 (0, 0))
theorem PB.c0 {w : World} {g : Nat} {a b c : Value} (h : PB w g a b c) : w.cell? ⟨g, 0, none⟩ = some a := by rw [cell_of_row w g 0 _ _ _ h]; rfl
theorem PB.c1 {w : World} {g : Nat} {a b c : Value} (h : PB w g a b c) : w.cell? ⟨g, 1, none⟩ = some b := by rw [cell_of_row w g 1 _ _ _ h]; rfl
theorem PB.c2 {w : World} {g : Nat} {a b c : Value} (h : PB w g a b c) : w.cell? ⟨g, 2, none⟩ = some c := by rw [cell_of_row w g 2 _ _ _ h]; rfl
theorem PB.fr {w : World} {g : Nat} {a b c : Value} (h : PB w g a b c) (i : Nat) : w.frozen? ⟨g, i, none⟩ = false := by unfold PB at h; simp [World.frozen?, h]
theorem PB.lt {w : World} {g : Nat} {a b c : Value} (h : PB w g a b c) : g < w.heap.size := (Array.getElem?_eq_some_iff.1 h).1
theorem PB.on {w w' : World} {g : Nat} {a b c : Value} (h : PB w g a b c) (hb : w'.heap[g]? = w.heap[g]?) : PB w' g a b c := hb.trans h
theorem PB.set0 {w : World} {g : Nat} {a b c : Value} (h : PB w g a b c) (z : Value) : PB (w.setCell ⟨g, 0, none⟩ z) g z b c := by
  unfold PB at h ⊢
  simp [World.setCell, Array.getElem?_modify, h]
theorem PB.set1 {w : World} {g : Nat} {a b c : Value} (h : PB w g a b c) (z : Value) : PB (w.setCell ⟨g, 1, none⟩ z) g a z c := by
  unfold PB at h ⊢
  simp [World.setCell, Array.getElem?_modify, h]
theorem PB.set2 {w : World} {g : Nat} {a b c : Value} (h : PB w g a b c) (z : Value) : PB (w.setCell ⟨g, 2, none⟩ z) g a b z := by
  unfold PB at h ⊢
  simp [World.setCell, Array.getElem?_modify, h]
theorem own_set {w : World} {base n g i : Nat} {v x : Value} {xs : List Value} (h : w.ownsRow base 5 1 v n xs) (hg : g < base) : (w.setCell ⟨g, i, none⟩ x).ownsRow base 5 1 v n xs := by
  obtain ⟨h1, h2⟩ := h
  refine ⟨h1, ?_⟩
  rcases h2 with h2 | ⟨b, cap, cur, rfl, hb, hh, h3⟩
  · exact .inl h2
  · exact .inr ⟨b, cap, cur, rfl, hb, by rw [Below.heap_setCell _ _ _ _ (by show b ≠ g; omega)]; exact hh, h3⟩
theorem RB.set {w : World} {B g i : Nat} {A : Option Addr} {l : List UInt8} {x : Value} (h : RB w B A l) (hg : B ≤ g) : RB (w.setCell ⟨g, i, none⟩ x) B A l :=
  h.on ((Below.refl B w).setCell (p := ⟨g, i, none⟩) hg x)
/-- where the mantissa ends -/
theorem takeWhile_get {α : Type} (p : α → Bool) (l : List α) (q : Nat) (h : q < (l.takeWhile p).length) : ∃ hq : q < l.length, p l[q] = true := by
  induction l generalizing q with
  | nil => simp at h
  | cons c l ih =>
    rw [List.takeWhile_cons] at h
    cases hc : p c
    · rw [hc] at h; simp at h
    · rw [hc] at h
      simp only [if_true, List.length_cons] at h
      cases q with
      | zero => exact ⟨by simp, hc⟩
      | succ q =>
        obtain ⟨hq, e⟩ := ih q (by omega)
        exact ⟨by simp; omega, by simpa using e⟩
theorem takeWhile_end {α : Type} (p : α → Bool) (l : List α) (h : (l.takeWhile p).length < l.length) : p l[(l.takeWhile p).length] = false := by
  induction l with
  | nil => simp at h
  | cons c l ih =>
    cases hc : p c
    · simp [List.takeWhile_cons, hc]
    · have h' : (l.takeWhile p).length < l.length := by rw [List.takeWhile_cons, hc] at h; simpa using h
      have := ih h'
      simpa [List.takeWhile_cons, hc] using this
theorem mant_at {l : List UInt8} {q : Nat} (h : q < (mantOf l).length) : ∃ hq : q < l.length, isE l[q] = false := by
  obtain ⟨hq, e⟩ := takeWhile_get _ l q h
  exact ⟨hq, by simpa using e⟩
theorem mant_end {l : List UInt8} (h : (mantOf l).length < l.length) : isE l[(mantOf l).length] = true := by
  have := takeWhile_end (fun c => !isE c) l h
  revert this
  show (!isE (l[(mantOf l).length]'h)) = false → _
  cases isE (l[(mantOf l).length]'h)
  · intro h; cases h
  · intro _; rfl
/-- memory as the loops meet it: the result's place, the bytes, p's place -/
structure Mem (w W : World) (l : List UInt8) : Prop where
  res : PB W w.heap.size (.bool false) (.slice none 0 0) (.int .i64 0)
  p : PB W (w.heap.size + 2) (.bool false) (.slice none 0 0) (.int .i64 0)
  row : RB W (w.heap.size + 2) (some ⟨w.heap.size + 1, 0, none⟩) l
  below : Below w.heap.size w W
  size : W.heap.size = w.heap.size + 3
theorem mem_start (w : World) (s : ByteArray) (l : List UInt8) (hl : s.data.toList = l) :
    Mem w ((Lib.bytesWorld (w.alloc (.cells #[.bool false, .slice none 0 0, .int .i64 0] 221)) 5 s).alloc (.cells #[.bool false, .slice none 0 0, .int .i64 0] 221)) l := by
  have hz : (Lib.bytesWorld (w.alloc (.cells #[.bool false, .slice none 0 0, .int .i64 0] 221)) 5 s).heap.size = w.heap.size + 2 := by rw [Lib.bytesWorld_size]; simp
  have hz1 : (w.alloc (.cells #[.bool false, .slice none 0 0, .int .i64 0] 221)).heap.size = w.heap.size + 1 := by simp
  refine ⟨?_, ?_, ?_, ?_, ?_⟩
  · unfold PB
    rw [heap_alloc_old _ _ (by rw [hz]; omega), Lib.bytesWorld_at_old _ _ _ _ (by rw [hz1]; omega)]
    exact heap_alloc_new w _
  · have := heap_alloc_new (Lib.bytesWorld (w.alloc (.cells #[.bool false, .slice none 0 0, .int .i64 0] 221)) 5 s) (.cells #[.bool false, .slice none 0 0, .int .i64 0] 221)
    rw [hz] at this
    exact this
  · have := bytes_RB (w.alloc (.cells #[.bool false, .slice none 0 0, .int .i64 0] 221)) s l hl (w.heap.size + 2) (by rw [hz1]; omega)
    rw [hz1] at this
    exact this.on ((Below.refl _ _).alloc (by rw [hz]; omega) _)
  · exact (bytes_below ((Below.refl _ w).alloc (Nat.le_refl _) _) (by rw [hz1]; omega) _ _).alloc (by rw [hz]; omega) _
  · simp [hz]
/-- A row of bytes of one's own: in a block from lo on. -/
def RL (w : World) (lo : Nat) (a : Option Addr) (l : List UInt8) : Prop :=
  l = [] ∨ ∃ b off, a = some ⟨b, off, none⟩ ∧ lo ≤ b ∧ b < w.heap.size ∧ ∀ (j : Nat) (h : j < l.length), w.cell? ⟨b, off + j, none⟩ = some (.int .u8 (l[j].toNat))
theorem RL.rb {w : World} {lo : Nat} {a : Option Addr} {l : List UInt8} (h : RL w lo a l) : RB w w.heap.size a l := by
  rcases h with h | ⟨b, off, e, _, hb, hc⟩
  · exact .inl h
  · exact .inr ⟨b, off, e, hb, hc⟩
theorem RL.set {w : World} {lo g i : Nat} {a : Option Addr} {l : List UInt8} {x : Value} (h : RL w lo a l) (hg : g < lo) : RL (w.setCell ⟨g, i, none⟩ x) lo a l := by
  rcases h with h | ⟨b, off, e, hl, hb, hc⟩
  · exact .inl h
  · refine .inr ⟨b, off, e, hl, by simpa [World.setCell] using hb, fun j hj => ?_⟩
    rw [World.cell?_of_block (w := w) (a := ⟨b, off + j, none⟩) (by rw [Below.heap_setCell _ _ _ _ (by show b ≠ g; omega)])]
    exact hc j hj
theorem RL.tl1 {w : World} {lo : Nat} {A : Option Addr} {c : Nat} {x : UInt8} {r : List UInt8} (h : RL w lo A (x :: r)) (hc : r.length + 1 ≤ c) : RL w lo (YtfploakafbnigaaGreatDoor.tl1 A c) r := by
  rcases h with h | ⟨b, off, rfl, hl, hb, hc'⟩
  · cases h
  · unfold YtfploakafbnigaaGreatDoor.tl1
    split
    · exact .inl (List.eq_nil_of_length_eq_zero (by omega))
    · refine .inr ⟨b, off + 1, by simp [Addr.add], hl, hb, fun j hj => ?_⟩
      have := hc' (j + 1) (by simp; omega)
      rw [show off + 1 + j = off + (j + 1) by omega]
      exact this
theorem RL.init {w : World} {lo : Nat} {A : Option Addr} {x : UInt8} {r : List UInt8} (h : RL w lo A (r ++ [x])) : RL w lo A r := by
  rcases h with h | ⟨b, off, rfl, hl, hb, hc'⟩
  · simp at h
  · refine .inr ⟨b, off, rfl, hl, hb, fun j hj => ?_⟩
    have := hc' j (by simp; omega)
    rw [List.getElem_append_left hj] at this
    exact this
theorem RL.head {w : World} {lo : Nat} {A : Option Addr} {x : UInt8} {r : List UInt8} (h : RL w lo A (x :: r)) : ∃ b off, A = some ⟨b, off, none⟩ ∧ w.cell? ⟨b, off, none⟩ = some (.int .u8 x.toNat) := h.rb.head
theorem RL.last {w : World} {lo : Nat} {A : Option Addr} {x : UInt8} {r : List UInt8} (h : RL w lo A (r ++ [x])) : ∃ b off, A = some ⟨b, off, none⟩ ∧ w.cell? ⟨b, off + r.length, none⟩ = some (.int .u8 x.toNat) := by
  obtain ⟨b, off, e, hc⟩ := h.rb.get r.length (by simp)
  refine ⟨b, off, e, ?_⟩
  rw [hc]
  simp
theorem RL_of_own {w : World} {base n : Nat} {v : Value} {l : List UInt8} (h : w.ownsRow base 5 1 v n (cellsOf l)) : ∃ A c, v = .slice A l.length c ∧ l.length ≤ c ∧ RL w base A l := by
  obtain ⟨h1, h2⟩ := h
  have hn : n = l.length := by simpa [cellsOf] using h1.symm
  rcases h2 with ⟨rfl, h0⟩ | ⟨g, cap, cur, rfl, hb, hg, hcap, _, hz, ht⟩
  · have : l = [] := List.eq_nil_of_length_eq_zero (by omega)
    subst this
    exact ⟨none, 0, rfl, by simp, .inl rfl⟩
  · subst hn
    refine ⟨_, _, rfl, hcap, .inr ⟨g, 0, rfl, hb, (Array.getElem?_eq_some_iff.1 hg).1, fun j hj => ?_⟩⟩
    rw [cell_of_row w g (0 + j) cur _ _ hg, Nat.zero_add]
    have e := congrArg (fun x => x[j]?) ht
    simp only [Nat.mul_one] at e
    rw [cellsOf_get l j hj, List.getElem?_take_of_lt hj] at e
    simpa using e
theorem trimL_idem (D : List UInt8) : trimL (trimL D [48]) [48] = trimL D [48] := by
  induction D with
  | nil => rfl
  | cons x r ih =>
    by_cases h : x = 48
    · subst h; rw [trimL_nought]; exact ih
    · rw [trimL_other h, trimL_other h]
theorem trimR_ne {x : UInt8} (h : x ≠ 48) (t : List UInt8) : trimR (x :: t) [48] ≠ [] := by
  intro e
  obtain ⟨k, hk⟩ := trimR_split (x :: t)
  rw [e, List.nil_append] at hk
  cases k with
  | zero => cases hk
  | succ k => injection hk with h1 _; exact h h1
/-- What Of gives. -/
def RefPost (o : Option V) (e : Ending) (w' : World) : Prop := match o with
  | none => ∃ bl A n c pw, e = .returned (.tuple #[.agg #[.bool bl, .slice A n c, .int .i64 pw], .bool false])
  | some v => ∃ A c, e = .returned (.tuple #[.agg #[.bool v.below, .slice A v.digits.length c, .int .i64 v.power], .bool true]) ∧ RB w' w'.heap.size A v.digits
set_option maxRecDepth 100000 in
set_option maxHeartbeats 4000000 in
theorem RefOf_good (s : ByteArray) (l : List UInt8) (w : World) (hl : s.data.toList = l) (hn : l.length ≤ 1000000000000) (hne : l ≠ []) (PR : Int × Bool) (hPR : -1000000000000000 ≤ PR.1 ∧ PR.1 ≤ 1000000000000000) (R : Option V)
    (hR : Hid (R = if trimL (stA (mantOf l)).D [48] = [] then some ⟨false, [], 0⟩ else if PR.2 then some ⟨decide (l.head? = some 45), trimR (trimL (stA (mantOf l)).D [48]) [48], ((trimL (stA (mantOf l)).D [48]).length : Int) - (trimR (trimL (stA (mantOf l)).D [48]) [48]).length - (stA (mantOf l)).bh + PR.1⟩ else none))
    (hP0 : Hid (¬ (mantOf l).length < l.length → PR = (0, true)))
    (hPW : Hid ((mantOf l).length < l.length → (mantOf l).length + 2 ≤ l.length ∧ ∀ (c : Nat), l.length ≤ c → ∀ (W : World), RB W (w.heap.size + 2) (some ⟨w.heap.size + 1, 0, none⟩) l →
      Calls Tryz.prog 212 #[.slice (some ⟨w.heap.size + 1, (mantOf l).length + 1, none⟩) (l.length - ((mantOf l).length + 1)) (c - ((mantOf l).length + 1))] W fun e w' => e = .returned (.tuple #[.int .i64 PR.1, .bool PR.2]) ∧ W = w'))
    (HC : Hid (∀ (W : World) (g c : Nat), W.heap.size = g → Calls Tryz.prog 210 #[.slice (some ⟨g, 0, none⟩) s.size c, .int .i64 0] (Lib.bytesWorld W 5 s) fun e' w' => e' = .returned (.tuple #[.int .i64 s.size, .int .i64 0]) ∧ Lib.bytesWorld W 5 s = w')) :
    Calls Tryz.prog 183 #[.string s] w fun e w' => RefPost R e w' ∧ Below w.heap.size w w' := by
  have kc := fun (W : World) => Lib.run_convert_string_bytes (P := Tryz.prog) W 9 67 5 s Tryz.underlying9 Tryz.underlying67 Tryz.underlying5
  have hs : s.size = l.length := by rw [← hl, list_len]
  have HS := Lib.hid hs
  have HL := Lib.hid hl
  clear hs
  obtain ⟨i0, hi, hz0, hz1, hz2⟩ := info_parts info5u
  have HI := Lib.hid hi
  have HZ0 := Lib.hid hz0
  have HZ1 := Lib.hid hz1
  have HZ2 := Lib.hid hz2
  clear hi hz0 hz1 hz2 hl
  go_enter Tryz.func183, Tryz.ntmps183
  go_wp2_with fail
  refine (HC.out _ _ _ (by simp)).mono ?_
  rintro e w1 ⟨rfl, rfl⟩
  clear kc
  go_upto_block 0 with fail
  have hm := mem_start w s l HL.out
  have hz : (Lib.bytesWorld (w.alloc (.cells #[.bool false, .slice none 0 0, .int .i64 0] 221)) 5 s).heap.size = w.heap.size + 2 := by rw [Lib.bytesWorld_size]; simp
  have hcap : s.size ≤ grownCap (w.alloc (.cells #[.bool false, .slice none 0 0, .int .i64 0] 221)) s.size 0 5 := grownCap_ge _ _ _ _
  rw [hz]
  generalize (Lib.bytesWorld (w.alloc (.cells #[.bool false, .slice none 0 0, .int .i64 0] 221)) 5 s).alloc (.cells #[.bool false, .slice none 0 0, .int .i64 0] 221) = W2 at *
  generalize grownCap (w.alloc (.cells #[.bool false, .slice none 0 0, .int .i64 0] 221)) s.size 0 5 = cp at *
  have HM := Lib.hid hm
  have HCP := Lib.hid (show l.length ≤ cp by rw [← HS.out]; exact hcap)
  rw [HS.out]
  clear hm hz hcap HC
  go_cut [8, 9, 10] (fun v8 v9 v10 wx => ∃ sv, v8 = .int .i64 (stA (mantOf l)).bh ∧ v10 = .int .i64 (mantOf l).length ∧ Hid (PB wx (w.heap.size + 2) (.bool false) sv (.int .i64 0)) ∧ Hid (wx.ownsRow (w.heap.size + 3) 5 1 sv (stA (mantOf l)).D.length (cellsOf (stA (mantOf l)).D)) ∧ Hid (Below (w.heap.size + 2) W2 wx))
  case first =>
    go_wp2_with fail
    go_loopg [8, 9, 10] (mantOf l).length (fun k v8 v9 v10 wr => ∃ (q : Nat) (sv : Value), q + k = (mantOf l).length ∧ v10 = .int .i64 q ∧ v8 = .int .i64 (stA (l.take q)).bh ∧ v9 = .bool (stA (l.take q)).pt ∧ Hid (PB wr (w.heap.size + 2) (.bool false) sv (.int .i64 0)) ∧ Hid (wr.ownsRow (w.heap.size + 3) 5 1 sv (stA (l.take q)).D.length (cellsOf (stA (l.take q)).D)) ∧ Hid (Below (w.heap.size + 2) W2 wr))
    case atStart => exact ⟨0, .slice none 0 0, by omega, rfl, rfl, rfl, Lib.hid HM.out.p, Lib.hid (World.ownsRow_nil _ _ _ _), Lib.hid (Below.refl _ _)⟩
    case round =>
      obtain ⟨q, sv, hk, rfl, rfl, rfl, HP, HO, HB⟩ := hrel
      have HK := Lib.hid hk
      have HML := Lib.hid (mant_le l)
      clear hk
      by_cases hq : q < (mantOf l).length
      · obtain ⟨hql, hE⟩ := mant_at hq
        obtain ⟨b', off', e', hk⟩ := (HM.out.row.on HB.out).get q hql
        have e'' := Option.some.inj e'
        simp only [Addr.mk.injEq] at e''
        obtain ⟨rfl, rfl, -⟩ := e''
        rw [Nat.zero_add] at hk
        have HX : Hid (stA (l.take (q + 1)) = (stA (l.take q)).step l[q]) := Lib.hid (by rw [take_snoc' l q hql, stA_snoc])
        have DG := Lib.hid (fun W (hW : RB W (w.heap.size + 2) (some ⟨w.heap.size + 1, 0, none⟩) l) => ref_digit (some ⟨w.heap.size + 1, 0, none⟩) cp (w.heap.size + 2) q l W hW (by omega) (by omega))
        rw [digAt_of hql] at DG
        have HSL := Lib.hid (stA_len (l.take q))
        have hD : (stA (l.take q)).D.length ≤ 1000000000000 := by have := HSL.out.1; rw [List.length_take] at this; omega
        have hbh : (stA (l.take q)).bh ≤ 1000000000000 := by have := HSL.out.2; rw [List.length_take] at this; omega
        have hq9 : q ≤ 1000000000000 := by omega
        have hql' : decide ((q : Int) < (l.length : Int)) = true := by simp; omega
        generalize stA (l.take q) = st at *
        obtain ⟨D, bh, pt⟩ := st
        simp only at HP HO hD hbh
        generalize l[q] = x at *
        have c1 := HP.out.c1
        have f1 := HP.out.fr 1
        have HZE := Lib.hid (show x ≠ 101 ∧ x ≠ 69 from ⟨(fun h => by subst h; cases hE), (fun h => by subst h; cases hE)⟩)
        have k1 : ((x.toNat : Int) == 101) = false := by
          rw [beq_eq_false_iff_ne]; intro h; exact HZE.out.1 (UInt8.toNat_inj.1 (show x.toNat = (101 : UInt8).toNat by have : (101 : UInt8).toNat = 101 := rfl; omega))
        have k2 : ((x.toNat : Int) == 69) = false := by
          rw [beq_eq_false_iff_ne]; intro h; exact HZE.out.2 (UInt8.toNat_inj.1 (show x.toNat = (69 : UInt8).toNat by have : (69 : UInt8).toNat = 69 := rfl; omega))
        have k1' : ((x.toNat : Int) != 101) = true := by rw [bne, k1]; rfl
        have k2' : ((x.toNat : Int) != 69) = true := by rw [bne, k2]; rfl
        have HQ := Lib.hid hq
        clear e' hE hq HSL
        by_cases hx : x = 46
        · subst hx
          rw [show isD 46 = false from rfl] at DG
          rw [show ((46 : UInt8).toNat : Int) = 46 from rfl] at hk
          clear k1 k2 k1' k2'
          go_wp2_with (go_at_call 211; (with_reducible refine (DG.out _ (HM.out.row.on HB.out)).mono ?_); rintro e w' ⟨rfl, rfl⟩)
          go_roundg (gk - 1)
          case measure => have := HK.out; have := HQ.out; omega
          case rel => exact ⟨q + 1, sv, by have := HK.out; have := HQ.out; omega, by go_num, by rw [HX.out]; rfl, by rw [HX.out]; rfl, HP, by rw [HX.out]; exact HO, HB⟩
        · have k3 : ((x.toNat : Int) == 46) = false := by
            rw [beq_eq_false_iff_ne]; intro h; exact hx (UInt8.toNat_inj.1 (show x.toNat = (46 : UInt8).toNat by have : (46 : UInt8).toNat = 46 := rfl; omega))
          have HST : Hid ((⟨D, bh, pt⟩ : St).step x = if isD x then ⟨D ++ [x], if pt then bh + 1 else bh, pt⟩ else ⟨D, bh, pt⟩) := Lib.hid (by unfold St.step; rw [if_neg hx])
          clear hx
          cases hd : isD x
          · rw [hd] at DG HST
            clear hd
            generalize x.toNat = z at *
            go_wp2_with (go_at_call 211; (with_reducible refine (DG.out _ (HM.out.row.on HB.out)).mono ?_); rintro e w' ⟨rfl, rfl⟩)
            go_roundg (gk - 1)
            case measure => have := HK.out; have := HQ.out; omega
            case rel => exact ⟨q + 1, sv, by have := HK.out; have := HQ.out; omega, by go_num, by rw [HX.out, HST.out]; rfl, by rw [HX.out, HST.out]; rfl, HP, by rw [HX.out, HST.out]; exact HO, HB⟩
          · rw [hd] at DG HST
            clear hd
            have HCL : Hid (cellsOf D ++ [.int .u8 (x.toNat : Int)] = cellsOf (D ++ [x])) := Lib.hid (cellsOf_snoc D x)
            generalize x.toNat = z at *
            have HW2 := HM.out.size
            have hWs : w.heap.size + 3 ≤ wr.heap.size := by have := HB.out.size; omega
            have HWS := Lib.hid hWs
            have ca : (wr.alloc (.cells #[.int .u8 (z : Int)] 5)).cell? ⟨w.heap.size + 2, 1, none⟩ = some sv := (World.cell?_of_block (a := ⟨w.heap.size + 2, 1, none⟩) (heap_alloc_old wr _ (by show w.heap.size + 2 < wr.heap.size; omega))).trans c1
            clear HW2 hWs
            cases pt
            all_goals
              go_upto_region 13 with (go_at_call 211; (with_reducible refine (DG.out _ (HM.out.row.on HB.out)).mono ?_); rintro e w' ⟨rfl, rfl⟩)
              go_region_law (
                refine step_append_lies _ rfl (.tmp 57) (.tmp 62) 67 rfl (w.heap.size + 3) 5 i0 (.int .u8 0) 1 1 Tryz.underlying67 HI.out HZ0.out HZ1.out HZ2.out rfl (by decide) sv D.length (cellsOf D) (by simp [Act.eval, Act.put]) (by first | exact HO.out.alloc _ | exact HO.out.drew.alloc _ | exact (HO.out.alloc _).drew) ⟨wr.heap.size, 0, none⟩ 1 1 [.int .u8 (z : Int)] (by simp [Act.eval, Act.put]) rfl (by exact World.news_of_block (by exact heap_alloc_new _ _)) (fun x hx => by simp at hx; subst hx; rfl) (by decide) (by unfold maxLen; omega) (by omega) (by simp; have := HWS.out; omega) _ rfl ?_
                intro gg cap w3 hown hgrow hat hlt
                rw [HCL.out] at hown
                have HO3 := Lib.hid hown
                have HP3 := Lib.hid (HP.out.on (w' := w3) ((hgrow.block (w.heap.size + 2) (by simp; have := HWS.out; omega) (fun e => by have := (HO.out.lt _ e.symm).1; omega)).trans (by first | exact heap_alloc_old wr _ (by have := HWS.out; omega) | exact heap_alloc_old wr.drew _ (by have := HWS.out; show _ < wr.heap.size; omega))))
                have HB3 := Lib.hid (show Below (w.heap.size + 2) W2 w3 from ((by first | exact HB.out.alloc (by have := HWS.out; omega) _ | exact HB.out.drew.alloc (by have := HWS.out; show _ ≤ wr.heap.size; omega) _ | exact (HB.out.alloc (by have := HWS.out; omega) _).drew) : Below (w.heap.size + 2) W2 _).grown hgrow (by simp; have := HWS.out; omega) (fun q hq => by have := (HO.out.lt q hq).1; omega))
                have f3 := HP3.out.fr 1
                have c3 := HP3.out.c1
                clear hown hgrow hat hlt)
              all_goals
                go_wp2
                go_roundg (gk - 1)
                case measure => have := HK.out; have := HQ.out; omega
                case rel => exact ⟨q + 1, _, by have := HK.out; have := HQ.out; omega, by go_num, by rw [HX.out, HST.out]; first | rfl | go_num, by rw [HX.out, HST.out]; rfl, Lib.hid (HP3.out.set1 _), Lib.hid (by rw [HX.out, HST.out]; show World.ownsRow _ _ _ _ _ (D ++ [x]).length (cellsOf (D ++ [x])); rw [List.length_append]; exact own_set HO3.out (by omega)), Lib.hid (HB3.out.setCell (p := ⟨w.heap.size + 2, 1, none⟩) (Nat.le_refl _) _)⟩
      · obtain rfl : q = (mantOf l).length := by have := HK.out; omega
        rw [mant_take] at HO ⊢
        have hbh : (stA (mantOf l)).bh ≤ 1000000000000 := by have := (stA_len (mantOf l)).2; have := HML.out; omega
        by_cases he : (mantOf l).length < l.length
        · have hE := mant_end he
          obtain ⟨b', off', e', hk⟩ := (HM.out.row.on HB.out).get _ he
          have e'' := Option.some.inj e'
          simp only [Addr.mk.injEq] at e''
          obtain ⟨rfl, rfl, -⟩ := e''
          rw [Nat.zero_add] at hk
          have hql' : decide (((mantOf l).length : Int) < (l.length : Int)) = true := by simp; omega
          have hM9 : (mantOf l).length ≤ 1000000000000 := by omega
          generalize l[(mantOf l).length] = x at *
          generalize stA (mantOf l) = st at *
          obtain ⟨D, bh, pt⟩ := st
          generalize (mantOf l).length = M at *
          clear e' hq
          rcases isE_or hE with h | h
          · subst h
            rw [show ((101 : UInt8).toNat : Int) = 101 from rfl] at hk
            clear hE
            go_wp2
            go_meet
            exact ⟨sv, rfl, rfl, HP, HO, HB⟩
          · subst h
            rw [show ((69 : UInt8).toNat : Int) = 69 from rfl] at hk
            clear hE
            go_wp2
            go_meet
            exact ⟨sv, rfl, rfl, HP, HO, HB⟩
        · have hql' : decide (((mantOf l).length : Int) < (l.length : Int)) = false := by simp; omega
          have hql2 : decide ((mantOf l).length < l.length) = false := by simp; omega
          generalize stA (mantOf l) = st at *
          obtain ⟨D, bh, pt⟩ := st
          generalize (mantOf l).length = M at *
          clear hq he
          go_wp2
          go_meet
          exact ⟨sv, rfl, rfl, HP, HO, HB⟩
  case rest =>
    obtain ⟨sv, rfl, rfl, HP, HO, HB⟩ := hcut
    obtain ⟨A0, c0, rfl, hc0, hr0⟩ := RL_of_own HO.out
    have HR0 := Lib.hid hr0
    have HC0 := Lib.hid hc0
    have HSL := Lib.hid (stA_len (mantOf l))
    have HML := Lib.hid (mant_le l)
    clear hr0 hc0 HO
    have hbh : (stA (mantOf l)).bh ≤ 1000000000000 := by have := HSL.out.2; have := HML.out; omega
    have hD : (stA (mantOf l)).D.length ≤ 1000000000000 := by have := HSL.out.1; have := HML.out; omega
    obtain ⟨D, hDe⟩ : ∃ D, (stA (mantOf l)).D = D := ⟨_, rfl⟩
    obtain ⟨bh, hbe⟩ : ∃ bh, (stA (mantOf l)).bh = bh := ⟨_, rfl⟩
    rw [hDe] at HR0 HC0 HP hD
    rw [hbe] at hbh ⊢
    have HDE := Lib.hid hDe
    have HBE := Lib.hid hbe
    clear hDe hbe HSL
    go_upto_block 2 with fail
    go_cut [10] (fun v10 wx => ∃ A c, v10 = .int .i64 (mantOf l).length ∧ Hid (PB wx (w.heap.size + 2) (.bool false) (.slice A (trimL D [48]).length c) (.int .i64 0)) ∧ Hid ((trimL D [48]).length ≤ c) ∧ Hid (RL wx (w.heap.size + 3) A (trimL D [48])) ∧ Hid (Below (w.heap.size + 2) W2 wx))
    case first =>
      go_wp2_with fail
      go_loopg [] D.length (fun k wr => ∃ A c r, r.length = k ∧ r.length ≤ 1000000000000 ∧ Hid (PB wr (w.heap.size + 2) (.bool false) (.slice A (r : List UInt8).length c) (.int .i64 0)) ∧ Hid (r.length ≤ c) ∧ Hid (RL wr (w.heap.size + 3) A r) ∧ Hid (trimL r [48] = trimL D [48]) ∧ Hid (Below (w.heap.size + 2) W2 wr))
      case atStart => exact ⟨A0, c0, D, rfl, hD, HP, HC0, HR0, Lib.hid rfl, HB⟩
      case round =>
        obtain ⟨A, c, r, hk, hr9, HP', HC', HR', HT', HB'⟩ := hrel
        have HK := Lib.hid hk
        clear hk
        have c1 := HP'.out.c1
        have f1 := HP'.out.fr 1
        cases r with
        | nil =>
          go_wp2
          go_meet
          rw [← HT'.out]
          exact ⟨A, c, rfl, HP', HC', HR', HB'⟩
        | cons x t =>
          obtain ⟨b', off', rfl, hk⟩ := HR'.out.head
          by_cases hx : x = 48
          · subst hx
            rw [show ((48 : UInt8).toNat : Int) = 48 from rfl] at hk
            have hs := slice_one (some ⟨b', off', none⟩) t.length c
            simp only [List.length_cons] at hr9
            go_wp2
            go_roundg (gk - 1)
            case measure => have := HK.out; simp only [List.length_cons] at this; omega
            case rel => exact ⟨_, _, t, by have := HK.out; simp only [List.length_cons] at this; omega, by omega, Lib.hid (HP'.out.set1 _), Lib.hid (by have := HC'.out; simp only [List.length_cons] at this; omega), Lib.hid ((HR'.out.tl1 HC'.out).set (by omega)), Lib.hid (by rw [← HT'.out, trimL_nought]), Lib.hid (HB'.out.setCell (p := ⟨w.heap.size + 2, 1, none⟩) (Nat.le_refl _) _)⟩
          · have hx1 : ((x.toNat : Int) == 48) = false := by
              rw [beq_eq_false_iff_ne]; intro h; exact hx (UInt8.toNat_inj.1 (show x.toNat = (48 : UInt8).toNat by have : (48 : UInt8).toNat = 48 := rfl; omega))
            have HXT := Lib.hid (show x :: t = trimL D [48] by rw [← HT'.out, trimL_other hx])
            clear hx
            simp only [List.length_cons] at hr9
            go_wp2
            go_meet
            rw [← HXT.out]
            exact ⟨_, c, rfl, HP', HC', HR', HB'⟩
    case rest =>
      obtain ⟨A, c, rfl, HP1, HC1, HR1, HB1⟩ := hcut
      rw [HDE.out, HBE.out] at hR
      have hT9 : (trimL D [48]).length ≤ 1000000000000 := Nat.le_trans (trimL_len D [48]) hD
      have HTH : Hid (trimL (trimL D [48]) [48] = trimL D [48]) := Lib.hid (trimL_idem D)
      generalize trimL D [48] = T at *
      clear HP HC0 HR0 HB HDE HBE
      have c1 := HP1.out.c1
      have f1 := HP1.out.fr 1
      have HBW := Lib.hid (HM.out.below.trans (HB1.out.mono (show w.heap.size ≤ w.heap.size + 2 by omega)))
      have HRS := Lib.hid (HM.out.res.on (HB1.out.block w.heap.size (by omega)))
      cases T with
      | nil =>
        rw [if_pos rfl] at hR
        have r0 := HRS.out.c0
        have r1 := HRS.out.c1
        have r2 := HRS.out.c2
        have g0 := HRS.out.fr 0
        have g1 := HRS.out.fr 1
        have g2 := HRS.out.fr 2
        have hR' := hR.out
        subst hR'
        go_wp2
        exact bodyPost_ret (v := .tuple #[.agg #[.bool false, .slice none 0 0, .int .i64 0], .bool true]) (by simp [results, Tryz.results183, go_sem, r0, r1, r2, g0, g1, g2]) rfl ⟨⟨none, 0, rfl, .inl rfl⟩, below_set3 HBW.out _ _ _⟩
      | cons x t =>
        rw [if_neg (by simp)] at hR
        have hx : x ≠ 48 := by
          intro h
          subst h
          have := HTH.out
          have h2 := congrArg List.length this
          have h3 := trimL_len t [48]
          rw [trimL_nought] at h2
          simp only [List.length_cons] at h2
          omega
        have HX := Lib.hid hx
        have HT9 := Lib.hid hT9
        simp only [List.length_cons] at hT9
        clear hx
        go_upto_if 93 with fail
        go_cut [11] (fun v11 wx => v11 = .bool PR.2 ∧ Hid (PB wx (w.heap.size + 2) (.bool false) (.slice A (t.length + 1) c) (.int .i64 PR.1)) ∧ Hid (RL wx (w.heap.size + 3) A (x :: t)) ∧ Hid (Below (w.heap.size + 2) W2 wx))
        case first =>
          have f2 := HP1.out.fr 2
          have c2 := HP1.out.c2
          by_cases he : (mantOf l).length < l.length
          · obtain ⟨hM2, PWc⟩ := hPW.out he
            have PWH := Lib.hid (PWc cp HCP.out)
            have hcM : ¬ cp = (mantOf l).length + 1 := by have := HCP.out; omega
            have e1 : decide (((mantOf l).length : Int) < (l.length : Int)) = true := by simp; omega
            have hM9 : (mantOf l).length ≤ 1000000000000 := by omega
            clear PWc hPW hP0 hR
            go_wp2_with (go_at_call 212; refine (PWH.out _ (HM.out.row.on HB1.out)).mono ?_; rintro e w' ⟨rfl, rfl⟩)
            go_meet
            exact ⟨rfl, Lib.hid (HP1.out.set2 _), Lib.hid (HR1.out.set (by omega)), Lib.hid (HB1.out.setCell (p := ⟨w.heap.size + 2, 2, none⟩) (Nat.le_refl _) _)⟩
          · have e1 : decide (((mantOf l).length : Int) < (l.length : Int)) = false := by simp; omega
            have e2 : decide ((mantOf l).length < l.length) = false := by simp; omega
            have hp := hP0.out he
            have h1 : PR.1 = 0 := by rw [hp]
            have h2 : PR.2 = true := by rw [hp]
            have H1 := Lib.hid h1
            have H2 := Lib.hid h2
            clear hPW hP0 hR hp h1 h2
            have hlM : l.length ≤ (mantOf l).length := by omega
            clear he
            generalize (mantOf l).length = M at *
            go_wp2
            go_meet
            exact ⟨by rw [H2.out], by rw [H1.out]; exact HP1, HR1, HB1⟩
        case rest =>
          obtain ⟨rfl, HP2, HR2, HB2⟩ := hcut
          clear c1 f1
          have c2 := HP2.out.c2
          have f2 := HP2.out.fr 2
          have HNE := Lib.hid (trimR_ne HX.out t)
          have HHD : Hid (∃ P0 : Int, P0 = PR.1 - bh) := Lib.hid ⟨_, rfl⟩
          obtain ⟨P0, hP0'⟩ := HHD.out
          have hP9 : -2000000000000000 ≤ P0 ∧ P0 ≤ 2000000000000000 := by omega
          have HPE := Lib.hid hP0'
          go_upto_block 4 with fail
          go_cut [10] (fun v10 wx => ∃ A c, v10 = .int .i64 (mantOf l).length ∧ Hid (PB wx (w.heap.size + 2) (.bool false) (.slice A (trimR (x :: t) [48]).length c) (.int .i64 (P0 + ((t.length + 1 : Nat) : Int) - (trimR (x :: t) [48]).length))) ∧ Hid (RL wx (w.heap.size + 3) A (trimR (x :: t) [48])) ∧ Hid (Below (w.heap.size + 2) W2 wx))
          case first =>
            clear c2 f2
            go_wp2_with fail
            go_loopg [] (t.length + 1) (fun k wr => ∃ A c r, r.length = k ∧ (r : List UInt8).length ≤ t.length + 1 ∧ Hid (PB wr (w.heap.size + 2) (.bool false) (.slice A r.length c) (.int .i64 (P0 + ((t.length + 1 : Nat) : Int) - r.length))) ∧ Hid (r.length ≤ c) ∧ Hid (RL wr (w.heap.size + 3) A r) ∧ Hid (trimR r [48] = trimR (x :: t) [48]) ∧ Hid (Below (w.heap.size + 2) W2 wr))
            case atStart => exact ⟨A, c, x :: t, rfl, Nat.le_refl _, Lib.hid (by
                have := HP2.out.set2 (.int .i64 P0)
                rw [hP0'] at this
                rw [show P0 + ((t.length + 1 : Nat) : Int) - ((x :: t).length : Nat) = P0 by simp only [List.length_cons]; omega, hP0']
                exact this), HC1, Lib.hid (HR2.out.set (by omega)), Lib.hid rfl, Lib.hid (HB2.out.setCell (p := ⟨w.heap.size + 2, 2, none⟩) (Nat.le_refl _) _)⟩
            case round =>
              obtain ⟨A', c', r, hk, hr9, HP', HC', HR', HT', HB'⟩ := hrel
              have HK := Lib.hid hk
              clear hk
              have hrn : r ≠ [] := fun e => by subst e; exact HNE.out (by rw [← HT'.out]; rfl)
              obtain ⟨r', y, rfl⟩ : ∃ r' y, r = r' ++ [y] := ⟨r.dropLast, r.getLast hrn, (List.dropLast_concat_getLast hrn).symm⟩
              obtain ⟨b', off', rfl, hk⟩ := HR'.out.last
              have hlen : (r' ++ [y]).length = r'.length + 1 := by simp
              rw [hlen] at HP' HC' hr9 HK
              obtain ⟨n, hn'⟩ : ∃ n, r'.length = n := ⟨_, rfl⟩
              rw [hn'] at HP' HC' hr9 HK hk
              have HN' := Lib.hid hn'
              clear hn' hlen hrn
              have c1 := HP'.out.c1
              have f1 := HP'.out.fr 1
              have c2 := HP'.out.c2
              have f2 := HP'.out.fr 2
              by_cases hy : y = 48
              · subst hy
                rw [show ((48 : UInt8).toNat : Int) = 48 from rfl] at hk
                have hc0 : ¬ c' = 0 := by have := HC'.out; omega
                have hc1 : n ≤ c' := by have := HC'.out; omega
                go_wp2
                go_roundg (gk - 1)
                case measure => have := HK.out; omega
                case rel => exact ⟨some ⟨b', off', none⟩, c', r', by have := HK.out; have := HN'.out; omega, by have := HN'.out; omega, Lib.hid (by
                    rw [HN'.out]
                    have := (HP'.out.set1 (.slice (some ⟨b', off', none⟩) n c')).set2 (.int .i64 (PR.1 - bh + (t.length + 1) - (n + 1) + 1))
                    rw [show P0 + ((t.length + 1 : Nat) : Int) - (n : Nat) = PR.1 - bh + (t.length + 1) - (n + 1) + 1 by omega]
                    exact this), Lib.hid (by have := HC'.out; have := HN'.out; omega), Lib.hid ((HR'.out.init.set (by omega)).set (by omega)), Lib.hid (by rw [← HT'.out, trimR_snoc, if_pos rfl]), Lib.hid ((HB'.out.setCell (p := ⟨w.heap.size + 2, 1, none⟩) (Nat.le_refl _) _).setCell (p := ⟨w.heap.size + 2, 2, none⟩) (Nat.le_refl _) _)⟩
              · have hy1 : ((y.toNat : Int) == 48) = false := by
                  rw [beq_eq_false_iff_ne]; intro h; exact hy (UInt8.toNat_inj.1 (show y.toNat = (48 : UInt8).toNat by have : (48 : UInt8).toNat = 48 := rfl; omega))
                have HTT := Lib.hid (show r' ++ [y] = trimR (x :: t) [48] by rw [← HT'.out, trimR_snoc, if_neg hy])
                have hc1 : n ≤ c' := by have := HC'.out; omega
                clear hy
                go_wp2
                go_meet
                rw [← HTT.out]
                exact ⟨_, c', rfl, by rw [show (r' ++ [y]).length = n + 1 by rw [List.length_append, HN'.out]; rfl]; exact HP', HR', HB'⟩
          case rest =>
            obtain ⟨A', c', rfl, HP3, HR3, HB3⟩ := hcut
            have HBW3 := Lib.hid (HM.out.below.trans (HB3.out.mono (show w.heap.size ≤ w.heap.size + 2 by omega)))
            have HRS3 := Lib.hid (HM.out.res.on (HB3.out.block w.heap.size (by omega)))
            have HROW := Lib.hid (HM.out.row.on HB3.out)
            obtain ⟨y0, l', hl'⟩ : ∃ y0 l', l = y0 :: l' := by
              cases l with
              | nil => exact absurd rfl hne
              | cons a b => exact ⟨a, b, rfl⟩
            have hbl : ∃ bl : Bool, ((y0.toNat : Int) == 45) = bl ∧ decide (l.head? = some 45) = bl := by
              by_cases h : y0 = 45
              · subst h; exact ⟨true, rfl, by rw [hl']; rfl⟩
              · refine ⟨false, ?_, ?_⟩
                · rw [beq_eq_false_iff_ne]; intro h'; exact h (UInt8.toNat_inj.1 (show y0.toNat = (45 : UInt8).toNat by have : (45 : UInt8).toNat = 45 := rfl; omega))
                · rw [hl']; simpa using h
            obtain ⟨bl, hb1, hb2⟩ := hbl
            rw [hb2] at hR
            have hk : wc.cell? ⟨w.heap.size + 1, 0, none⟩ = some (.int .u8 y0.toNat) := by
              have := HROW.out
              rw [hl'] at this
              obtain ⟨b', off', e', hc⟩ := this.head
              have e'' := Option.some.inj e'
              simp only [Addr.mk.injEq] at e''
              obtain ⟨rfl, rfl, -⟩ := e''
              exact hc
            have hl0 : 0 < l.length := by rw [hl']; simp
            have HL' := Lib.hid hl'
            have HB2 := Lib.hid hb2
            clear hl' hb2 hP0' c2 f2
            have c0 := HP3.out.c0
            have c1 := HP3.out.c1
            have c2 := HP3.out.c2
            have f0 := HP3.out.fr 0
            have f1 := HP3.out.fr 1
            have f2 := HP3.out.fr 2
            have r0 := HRS3.out.c0
            have r1 := HRS3.out.c1
            have r2 := HRS3.out.c2
            have g0 := HRS3.out.fr 0
            have g1 := HRS3.out.fr 1
            have g2 := HRS3.out.fr 2
            go_wp2
            have hpost : ∀ W', RB W' W'.heap.size A' (trimR (x :: t) [48]) → RefPost R (.returned (.tuple #[.agg #[.bool bl, .slice A' (trimR (x :: t) [48]).length c', .int .i64 (P0 + ((t.length : Int) + 1) - (trimR (x :: t) [48]).length)], .bool PR.2])) W' := by
              intro W' hW
              have hRR := hR.out
              cases hp : PR.2
              · rw [hp, if_neg (by decide)] at hRR
                subst hRR
                exact ⟨bl, A', _, c', _, rfl⟩
              · rw [hp, if_pos rfl] at hRR
                subst hRR
                refine ⟨A', c', ?_, hW⟩
                show Ending.returned (.tuple #[.agg #[.bool bl, .slice A' (trimR (x :: t) [48]).length c', .int .i64 (P0 + ((t.length : Int) + 1) - (trimR (x :: t) [48]).length)], .bool true]) = Ending.returned (.tuple #[.agg #[.bool bl, .slice A' (trimR (x :: t) [48]).length c', .int .i64 (((x :: t).length : Int) - (trimR (x :: t) [48]).length - bh + PR.1)], .bool true])
                rw [show ((x :: t).length : Int) - (trimR (x :: t) [48]).length - bh + PR.1 = P0 + ((t.length : Int) + 1) - (trimR (x :: t) [48]).length by rw [HPE.out]; simp only [List.length_cons]; omega]
            exact bodyPost_ret (v := .tuple #[.agg #[.bool bl, .slice A' (trimR (x :: t) [48]).length c', .int .i64 (P0 + ((t.length : Int) + 1) - (trimR (x :: t) [48]).length)], .bool PR.2]) (by simp [results, Tryz.results183, go_sem, r0, r1, r2, g0, g1, g2]) rfl
              ⟨hpost _ (((((HR3.out.set (by omega)).set (by omega)).set (by omega)).set (by omega)).rb), below_set3 (HBW3.out.setCell (p := ⟨w.heap.size + 2, 0, none⟩) (by show w.heap.size ≤ w.heap.size + 2; omega) _) _ _ _⟩
end Go.Proofs.YtfploakafbnigaaGreatDoor
namespace Go.Proofs.YtfploakafbnigaaGreatDoor
open Go.RowKit Num
set_option linter.unusedVariables false
set_option linter.unusedSimpArgs false
set_option maxRecDepth 100000 in
set_option maxHeartbeats 1000000 in
/-- what is no number -/
theorem RefOf_bad (s : ByteArray) (w : World) (n : Nat) (e : Int) (hq : e ≠ 0 ∨ (e = 0 ∧ n ≠ s.size))
    (HC : Hid (∀ (W : World) (g c : Nat), W.heap.size = g → Calls Tryz.prog 210 #[.slice (some ⟨g, 0, none⟩) s.size c, .int .i64 0] (Lib.bytesWorld W 5 s) fun e' w' => e' = .returned (.tuple #[.int .i64 n, .int .i64 e]) ∧ Lib.bytesWorld W 5 s = w')) :
    Calls Tryz.prog 183 #[.string s] w fun e w' => RefPost none e w' ∧ Below w.heap.size w w' := by
  have kc := fun (W : World) => Lib.run_convert_string_bytes (P := Tryz.prog) W 9 67 5 s Tryz.underlying9 Tryz.underlying67 Tryz.underlying5
  have hbad : (∃ hx : (e != 0) = true, (e == 0) = false) ∨ (e = 0 ∧ ((n : Int) != (s.size : Int)) = true ∧ (n != s.size) = true) := by
    rcases hq with h | ⟨h, hn⟩
    · exact .inl ⟨by simpa using h, by simpa using h⟩
    · exact .inr ⟨h, by rw [bne_iff_ne]; omega, by rw [bne_iff_ne]; exact hn⟩
  clear hq
  rcases hbad with ⟨h1, h2⟩ | ⟨rfl, h1, h2⟩
  all_goals
    go_enter Tryz.func183, Tryz.ntmps183
    go_wp2_with fail
    refine (HC.out _ _ _ (by simp)).mono ?_
    rintro e w1 ⟨rfl, rfl⟩
    clear kc
    have hres : PB (Lib.bytesWorld (w.alloc (.cells #[.bool false, .slice none 0 0, .int .i64 0] 221)) 5 s) w.heap.size (.bool false) (.slice none 0 0) (.int .i64 0) := by
      unfold PB
      rw [Lib.bytesWorld_at_old _ _ _ _ (by simp)]
      exact heap_alloc_new w _
    have hbw : Below w.heap.size w (Lib.bytesWorld (w.alloc (.cells #[.bool false, .slice none 0 0, .int .i64 0] 221)) 5 s) := bytes_below ((Below.refl _ w).alloc (Nat.le_refl _) _) (by simp) _ _
    have r0 := hres.c0
    have r1 := hres.c1
    have r2 := hres.c2
    have g0 := hres.fr 0
    have g1 := hres.fr 1
    have g2 := hres.fr 2
    have HBW := Lib.hid hbw
    clear hres hbw
    generalize Lib.bytesWorld (w.alloc (.cells #[.bool false, .slice none 0 0, .int .i64 0] 221)) 5 s = W1 at *
    go_wp2
    exact bodyPost_ret (v := .tuple #[.agg #[.bool false, .slice none 0 0, .int .i64 0], .bool false]) (by simp [results, Tryz.results183, go_sem, r0, r1, r2, g0, g1, g2]) rfl ⟨⟨false, none, 0, 0, 0, rfl⟩, below_set3 HBW.out _ _ _⟩
theorem RB.drop {w : World} {B b : Nat} {l : List UInt8} (h : RB w B (some ⟨b, 0, none⟩) l) (k : Nat) : RB w B (some ⟨b, k, none⟩) (l.drop k) := by
  rcases h with h | ⟨b', off', e, hb, hc⟩
  · subst h; exact .inl (by simp)
  · have e' := Option.some.inj e
    simp only [Addr.mk.injEq] at e'
    obtain ⟨rfl, rfl, -⟩ := e'
    refine .inr ⟨b, k, rfl, hb, fun j hj => ?_⟩
    rw [List.length_drop] at hj
    have := hc (k + j) (by omega)
    rw [Nat.zero_add] at this
    rw [this, List.getElem_drop]
theorem neg_notE {g : List UInt8} (hg : NegF g) : ∀ y ∈ g, (!isE y) = true := by
  rcases hg with e | e <;> subst e
  · intro y hy; cases hy
  · intro y hy
    have : y = 45 := by simpa using hy
    subst this; rfl
theorem mant_whole_form {g a f x : List UInt8} (hg : NegF g) (ha : Digs a) (hf : FracF f) (hx : ExpF x) : mantOf (g ++ (a ++ (f ++ x))) = g ++ (a ++ f) := by
  have h1 := takeWhile_all (p := fun c => !isE c) (r := a ++ (f ++ x)) (neg_notE hg)
  have h2 := (mant_form (x := x) ha hf hx).1
  unfold mantOf at h2 ⊢
  rw [h1.1, h2]
def powOfX (x : List UInt8) : Int × Bool := if x = [] then (0, true) else if 15 < (powDigs (x.drop 1)).length then (0, false) else (powVal (x.drop 1), true)
theorem powR_form {s r : List UInt8} (hs : SignF s) (hr : Digs r) : powR (decide (s = [45])) r = if 15 < (powDigs (s ++ r)).length then (0, false) else (powVal (s ++ r), true) := by
  have h1 : powDigs (s ++ r) = trimL r [48] := by unfold powDigs; rw [trim_sign hs hr]
  rw [(powVal_form hs hr).1, h1]
  unfold powR
  split
  · rfl
  · rw [decV_trim]
    rcases hs with k | k | k <;> subst k <;> rfl
theorem pow_bound (x : List UInt8) (hx : ExpF x) : -1000000000000000 ≤ (powOfX x).1 ∧ (powOfX x).1 ≤ 1000000000000000 := by
  unfold powOfX
  split
  · exact ⟨by decide, by decide⟩
  · split
    · exact ⟨by decide, by decide⟩
    · rename_i hl
      have hd := powDigs_form hx
      have := decV_lt (powDigs (x.drop 1)) hd 15 (by omega)
      show -1000000000000000 ≤ powVal (x.drop 1) ∧ powVal (x.drop 1) ≤ 1000000000000000
      unfold powVal
      split <;> omega
theorem RefOf_whole (s : ByteArray) (l : List UInt8) (w : World) (hl : s.data.toList = l) (hn : l.length ≤ 4294967280) (hk : checkN l 0 = (l.length, 0)) :
    Calls Tryz.prog 183 #[.string s] w fun e w' => RefPost (ofS l) e w' ∧ Below w.heap.size w w' := by
  obtain ⟨g, a, f, x, hg, ha, hf, hx, e⟩ := whole_form hk
  have hm : mantOf l = g ++ (a ++ f) := by rw [e]; exact mant_whole_form hg ha.2.1 hf hx
  have hst := stA_form hg ha.2.1 hf
  have hlen : l.length = (mantOf l).length + x.length := by rw [hm, e]; simp only [List.length_append]; omega
  have hs : s.size = l.length := by rw [← hl, list_len]
  have hdrop : ∀ c r, x = c :: r → l.drop ((mantOf l).length + 1) = r := by
    intro c r hxe
    rw [hm, e, hxe]
    have : g ++ (a ++ (f ++ c :: r)) = (g ++ (a ++ f) ++ [c]) ++ r := by simp
    rw [this, show (g ++ (a ++ f)).length + 1 = (g ++ (a ++ f) ++ [c]).length by simp only [List.length_append, List.length_cons, List.length_nil], List.drop_left]
  refine RefOf_good s l w hl (by omega) (by rw [e]; intro h; exact ha.1 (List.append_eq_nil_iff.1 (List.append_eq_nil_iff.1 h).2).1) (powOfX x) (pow_bound x hx) (ofS l) (Lib.hid ?_) (Lib.hid ?_) (Lib.hid ?_) (Lib.hid ?_)
  · rw [hm, hst.1, hst.2, e, of_form hg ha hf hx, (plain_form (r := a ++ (f ++ x)) hg (digs_head ha.1 ha.2.1 _)).2]
    split
    · rfl
    · unfold powOfX
      by_cases hx0 : x = []
      · subst hx0
        simp only [if_true]
        rw [if_neg (by decide)]
        rfl
      · rw [if_neg hx0]
        split
        · rfl
        · rfl
  · intro h
    have : x = [] := List.eq_nil_of_length_eq_zero (by omega)
    subst this; rfl
  · intro h
    rcases hx with hx | ⟨c, sg, r, hxe, hc, hsg, hr0, hr⟩
    · subst hx; simp at hlen; omega
    · have hd := hdrop c (sg ++ r) hxe
      have hxl : x.length = 1 + (sg ++ r).length := by rw [hxe]; simp only [List.length_cons]; omega
      have hrl : 0 < r.length := List.length_pos_iff.2 hr0
      have hsl : (sg ++ r).length = sg.length + r.length := List.length_append
      refine ⟨by omega, fun cc hcc W hW => ?_⟩
      have hRB := hW.drop ((mantOf l).length + 1)
      rw [hd] at hRB
      have hP : powOfX x = powR (decide (sg = [45])) r := by
        rw [powR_form hsg hr, hxe]
        unfold powOfX
        rw [if_neg (by simp)]
        rfl
      rw [hP, show l.length - ((mantOf l).length + 1) = (sg ++ r).length by omega]
      rcases hsg with k | k | k <;> subst k
      · obtain ⟨y, t, rfl⟩ : ∃ y t, r = y :: t := by
          cases r with
          | nil => exact absurd rfl hr0
          | cons y t => exact ⟨y, t, rfl⟩
        have h3 : (([] : List UInt8) ++ (y :: t)).length = t.length + 1 := rfl
        exact power_digit _ _ _ y t _ (Lib.hid rfl) W hRB (by omega) (by omega) (Lib.hid hr)
      · exact power_plus _ _ _ r _ (Lib.hid rfl) W hRB (by omega) (by simp only [List.length_cons, List.length_nil] at hsl; omega) (Lib.hid hr)
      · exact power_minus _ _ _ r _ (Lib.hid rfl) W hRB (by omega) (by simp only [List.length_cons, List.length_nil] at hsl; omega) (Lib.hid hr)
  · intro W gg c hgg
    have := refCheck_bytes s l hl W gg c hgg (by omega)
    rw [hk, ← hs] at this
    exact this
/-- colophonref09.Of. -/
theorem RefOf_any (s : ByteArray) (l : List UInt8) (hl : s.data.toList = l) (w : World) (hn : l.length ≤ 4294967280) :
    Calls Tryz.prog 183 #[.string s] w fun e w' => RefPost (ofS l) e w' ∧ Below w.heap.size w w' := by
  by_cases hk : checkN l 0 = (l.length, 0)
  · exact RefOf_whole s l w hl hn hk
  · have hs : s.size = l.length := by rw [← hl, list_len]
    rw [show ofS l = none by unfold ofS; rw [if_neg hk]]
    refine RefOf_bad s w (checkN l 0).1 (checkN l 0).2 ?_ (Lib.hid fun W g c hg => refCheck_bytes s l hl W g c hg (by omega))
    by_cases h0 : (checkN l 0).2 = 0
    · exact .inr ⟨h0, fun h => hk (Prod.ext (by rw [h, hs]) h0)⟩
    · exact .inl h0
end Go.Proofs.YtfploakafbnigaaGreatDoor
namespace Go.Proofs.YtfploakafbnigaaGreatDoor
open Go.RowKit Num
set_option linter.unusedVariables false
set_option linter.unusedSimpArgs false
theorem RefPost.none {e : Ending} {w : World} (h : RefPost none e w) : ∃ bl A n c pw, e = .returned (.tuple #[.agg #[.bool bl, .slice A n c, .int .i64 pw], .bool false]) := h
theorem RefPost.some {e : Ending} {w : World} {v : V} (h : RefPost (some v) e w) : ∃ A c, e = .returned (.tuple #[.agg #[.bool v.below, .slice A v.digits.length c, .int .i64 v.power], .bool true]) ∧ RB w w.heap.size A v.digits := h
def RefC (s : ByteArray) (o : Option V) : Prop := ∀ W, Calls Tryz.prog 183 #[.string s] W fun e w' => RefPost o e w' ∧ Below W.heap.size W w'
theorem ofS_len {l : List UInt8} {v : V} (h : ofS l = some v) : v.digits.length ≤ l.length := by
  unfold ofS at h
  split at h
  · unfold Num.valOf at h
    split at h
    · obtain rfl := Option.some.inj h; simp
    · split at h
      · cases h
      · obtain rfl := Option.some.inj h
        show (trimR (digsOf (mantOf (plainOf l))) [48]).length ≤ _
        have h1 := trimR_le (digsOf (mantOf (plainOf l))) [48]
        have h2 := digsOf_le (mantOf (plainOf l))
        have h3 := mant_le (plainOf l)
        have h4 : (plainOf l).length ≤ l.length := by unfold plainOf; split <;> simp
        omega
  · cases h
end Go.Proofs.YtfploakafbnigaaGreatDoor
namespace Go.Proofs.YtfploakafbnigaaGreatDoor
open Go.RowKit Num
set_option linter.unusedVariables false
set_option linter.unusedSimpArgs false
theorem decV_noughts (l : List UInt8) (j : Nat) : decV (l ++ List.replicate (j + 1) 48) = decV (l ++ List.replicate j 48) * 10 := by
  rw [List.replicate_succ', ← List.append_assoc, decV_snoc]; rfl
set_option maxRecDepth 100000 in
set_option maxHeartbeats 2000000 in
theorem RefInt_in (s : ByteArray) (bl : Bool) (dg : List UInt8) (p : Nat) (R : Int × Bool) (hR : Hid (intV ⟨bl, dg, p⟩ = R)) (w : World) (hd : Digs dg) (hp : dg.length + p ≤ 16) (H1 : Hid (RefC s (some ⟨bl, dg, p⟩))) :
    Calls Tryz.prog 137 #[.string s] w fun e w' => e = .returned (.tuple #[.int .i64 R.1, .bool R.2]) ∧ Below w.heap.size w w' := by
  have HD := Lib.hid hd
  have HIV : Hid (R = if 9007199254740991 < decV (dg ++ List.replicate p 48) then (0, false) else if bl then (-(decV (dg ++ List.replicate p 48) : Int), true) else (decV (dg ++ List.replicate p 48), true)) := by
    refine Lib.hid ?_
    rw [← hR.out]
    unfold intV intN
    rw [if_neg (by show ¬ ((p : Int) < 0 ∨ 16 < (p : Int) ∨ 16 < (dg.length : Int) + (p : Int)); omega)]
    rfl
  clear hd hR
  go_enter Tryz.func137, Tryz.ntmps137
  go_wp2_with fail
  refine (H1.out _).mono ?_
  rintro e w1 ⟨hq, hb⟩
  obtain ⟨A, c, rfl, hr⟩ := hq.some
  have hb2 : Below w.heap.size w (w1.alloc (.cells #[.bool bl, .slice A dg.length c, .int .i64 p] 221)) := hb.alloc hb.size _
  have hr2 : RB (w1.alloc (.cells #[.bool bl, .slice A dg.length c, .int .i64 p] 221)) w1.heap.size A dg := hr.on ((Below.refl _ w1).alloc (Nat.le_refl _) _)
  have k0 : (w1.alloc (.cells #[.bool bl, .slice A dg.length c, .int .i64 p] 221)).cell? ⟨w1.heap.size, 0, none⟩ = some (.bool bl) := by rw [cell_of_row _ _ 0 _ _ _ (heap_alloc_new w1 _)]; rfl
  have k1 : (w1.alloc (.cells #[.bool bl, .slice A dg.length c, .int .i64 p] 221)).cell? ⟨w1.heap.size, 1, none⟩ = some (.slice A dg.length c) := by rw [cell_of_row _ _ 1 _ _ _ (heap_alloc_new w1 _)]; rfl
  have k2 : (w1.alloc (.cells #[.bool bl, .slice A dg.length c, .int .i64 p] 221)).cell? ⟨w1.heap.size, 2, none⟩ = some (.int .i64 p) := by rw [cell_of_row _ _ 2 _ _ _ (heap_alloc_new w1 _)]; rfl
  have HB := Lib.hid hb2
  have HR := Lib.hid hr2
  clear hb hq hr hb2 hr2
  go_upto_block 0 with fail
  generalize w1.alloc (.cells #[.bool bl, .slice A dg.length c, .int .i64 p] 221) = W at *
  go_wp2_with fail
  go_loopg [6, 7] dg.length (fun k v6 v7 wr => ∃ q : Nat, q + k = dg.length ∧ v7 = .int .i64 q ∧ v6 = .int .i64 (decV (dg.take q)) ∧ W = wr)
  case atStart => exact ⟨0, by omega, rfl, rfl, rfl⟩
  case round =>
    obtain ⟨q, hk, rfl, rfl, rfl⟩ := hrel
    have HK := Lib.hid hk
    clear hk
    by_cases hq : q < dg.length
    · obtain ⟨b', off', rfl, hk⟩ := HR.out.get q hq
      have hdg := isD_range (HD.out _ (List.getElem_mem hq))
      have hlt := decV_lt (dg.take q) (fun x hx => HD.out x (List.mem_of_mem_take hx)) 16 (by rw [List.length_take]; omega)
      have HV : Hid (decV (dg.take (q + 1)) = decV (dg.take q) * 10 + (dg[q].toNat - 48)) := Lib.hid (by rw [take_snoc' dg q hq, decV_snoc])
      generalize dg[q].toNat = z at *
      generalize decV (dg.take q) = m at *
      have h1 : (48 : Int) ≤ z := by omega
      have h2 : (z : Int) ≤ 57 := by omega
      have h3 : (m : Int) ≤ 10000000000000000 := by omega
      have h4 : (0 : Int) ≤ m := by omega
      have hq16 : q ≤ 16 := by omega
      have g0 : decide ((q : Int) < (dg.length : Int)) = true := by simp; omega
      clear hlt hdg
      go_wp2
      go_roundg (gk - 1)
      case measure => have := HK.out; omega
      case rel => exact ⟨q + 1, by have := HK.out; omega, by go_num, by rw [HV.out]; congr 1; omega, rfl⟩
    · have g0 : decide ((q : Int) < (dg.length : Int)) = false := by simp; omega
      have g1 : decide (q < dg.length) = false := by simp; omega
      have e1 : dg.take q = dg ++ List.replicate 0 48 := by rw [List.take_of_length_le (by omega)]; simp
      rw [e1]
      have HP := Lib.hid hp
      clear e1 hq
      go_wp2
      go_loopg [6, 8] p (fun k v6 v8 wr => ∃ j : Nat, j + k = p ∧ v8 = .int .i64 j ∧ v6 = .int .i64 (decV (dg ++ List.replicate j 48)) ∧ W = wr)
      case atStart => exact ⟨0, by omega, rfl, rfl, rfl⟩
      case round =>
        obtain ⟨j, hk, rfl, rfl, rfl⟩ := hrel
        have HK2 := Lib.hid hk
        clear hk
        have hlt := decV_lt (dg ++ List.replicate j 48) (digs_append HD.out (fun x hx => by rw [(List.mem_replicate.1 hx).2]; rfl)) 16 (by rw [List.length_append, List.length_replicate]; have := HK2.out; have := HP.out; omega)
        by_cases hj : j < p
        · have HV := Lib.hid (decV_noughts dg j)
          have hlt2 := decV_lt (dg ++ List.replicate (j + 1) 48) (digs_append HD.out (fun x hx => by rw [(List.mem_replicate.1 hx).2]; rfl)) 16 (by rw [List.length_append, List.length_replicate]; have := HP.out; omega)
          rw [HV.out] at hlt2
          generalize decV (dg ++ List.replicate j 48) = m at *
          have h3 : (m : Int) ≤ 10000000000000000 := by omega
          have h4 : (0 : Int) ≤ m := by omega
          have hj16 : j ≤ 16 := by omega
          have g2 : decide ((j : Int) < (p : Int)) = true := by simp; omega
          clear hlt hlt2
          go_wp2
          go_roundg (gk - 1)
          case measure => have := HK2.out; omega
          case rel => exact ⟨j + 1, by have := HK2.out; omega, by go_num, by rw [HV.out]; congr 1, rfl⟩
        · obtain rfl : j = p := by have := HK2.out; omega
          generalize decV (dg ++ List.replicate j 48) = n at *
          have h3 : (n : Int) ≤ 10000000000000000 := by omega
          have h4 : (0 : Int) ≤ n := by omega
          clear hlt hj
          by_cases hbig : 9007199254740991 < n
          · have hb1 : decide ((9007199254740991 : Int) < (n : Int)) = true := by simp; omega
            have hb2 : decide (9007199254740991 < n) = true := by simp; omega
            obtain rfl : R = (0, false) := by rw [HIV.out, if_pos hbig]
            clear hbig
            go_wp2
            go_ret2
            exact ⟨rfl, HB.out⟩
          · have hb1 : decide ((9007199254740991 : Int) < (n : Int)) = false := by simp; omega
            have hb2 : decide (9007199254740991 < n) = false := by simp; omega
            cases bl
            · obtain rfl : R = ((n : Int), true) := by rw [HIV.out, if_neg hbig]; rfl
              clear hbig
              go_wp2
              go_ret2
              exact ⟨rfl, HB.out⟩
            · obtain rfl : R = (-(n : Int), true) := by rw [HIV.out, if_neg hbig]; rfl
              clear hbig
              go_wp2
              go_ret2
              exact ⟨rfl, HB.out⟩
set_option maxRecDepth 100000 in
set_option maxHeartbeats 1000000 in
theorem RefInt_none (s : ByteArray) (w : World) (H1 : Hid (RefC s none)) :
    Calls Tryz.prog 137 #[.string s] w fun e w' => e = .returned (.tuple #[.int .i64 0, .bool false]) ∧ Below w.heap.size w w' := by
  go_enter Tryz.func137, Tryz.ntmps137
  go_wp2_with fail
  refine (H1.out _).mono ?_
  rintro e w1 ⟨hq, hb⟩
  obtain ⟨bl, A, n, c, pw, rfl⟩ := hq.none
  have HB := Lib.hid (hb.alloc hb.size (.cells #[.bool bl, .slice A n c, .int .i64 pw] 221))
  clear hb hq
  go_wp2
  go_ret2
  exact ⟨rfl, HB.out⟩
set_option maxRecDepth 100000 in
set_option maxHeartbeats 1000000 in
theorem RefInt_out (s : ByteArray) (bl : Bool) (dg : List UInt8) (p : Int) (w : World) (hl : dg.length ≤ 4294967280) (h : p < 0 ∨ 16 < p ∨ 16 < (dg.length : Int) + p) (H1 : Hid (RefC s (some ⟨bl, dg, p⟩))) :
    Calls Tryz.prog 137 #[.string s] w fun e w' => e = .returned (.tuple #[.int .i64 0, .bool false]) ∧ Below w.heap.size w w' := by
  have hcase : p < 0 ∨ (0 ≤ p ∧ 16 < dg.length) ∨ (0 ≤ p ∧ dg.length ≤ 16 ∧ 16 < p) ∨ (0 ≤ p ∧ p ≤ 16 ∧ dg.length ≤ 16 ∧ 16 < (dg.length : Int) + p) := by omega
  clear h
  rcases hcase with h | ⟨h0, h⟩ | ⟨h0, h1, h⟩ | ⟨h0, h1, h2, h⟩
  all_goals
    go_enter Tryz.func137, Tryz.ntmps137
    go_wp2_with fail
    refine (H1.out _).mono ?_
    rintro e w1 ⟨hq, hb⟩
    obtain ⟨A, c, rfl, hr⟩ := hq.some
    have HB := Lib.hid (hb.alloc hb.size (.cells #[.bool bl, .slice A dg.length c, .int .i64 p] 221))
    clear hb hq hr
    generalize dg.length = L at *
    go_wp2
    go_ret2
    exact ⟨rfl, HB.out⟩
/-- colophonref09.Int. -/
theorem refInt_any (s : ByteArray) (l : List UInt8) (hl : s.data.toList = l) (w : World) (hn : l.length ≤ 4294967280) :
    Calls Tryz.prog 137 #[.string s] w fun e w' => e = .returned (.tuple #[.int .i64 (int l).1, .bool (int l).2]) ∧ Below w.heap.size w w' := by
  have H1 := Lib.hid (show RefC s (ofS l) from fun W => RefOf_any s l hl W hn)
  have hd := fun v (h : ofS l = some v) => digs_of h
  have hz := fun v (h : ofS l = some v) => ofS_len h
  unfold int
  generalize ofS l = o at *
  cases o with
  | none => exact RefInt_none s w H1
  | some v =>
    obtain ⟨bl, dg, p⟩ := v
    have hdd := hd _ rfl
    have hzz := hz _ rfl
    show Calls Tryz.prog 137 #[.string s] w fun e w' => e = .returned (.tuple #[.int .i64 (intV ⟨bl, dg, p⟩).1, .bool (intV ⟨bl, dg, p⟩).2]) ∧ Below w.heap.size w w'
    by_cases h : p < 0 ∨ 16 < p ∨ 16 < (dg.length : Int) + p
    · rw [show intV ⟨bl, dg, p⟩ = (0, false) by unfold intV; rw [if_pos h]]
      exact RefInt_out s bl dg p w (Nat.le_trans hzz hn) h H1
    · obtain ⟨k, rfl⟩ : ∃ k : Nat, p = k := ⟨p.toNat, by omega⟩
      exact RefInt_in s bl dg k _ (Lib.hid rfl) w hdd (by omega) H1
end Go.Proofs.YtfploakafbnigaaGreatDoor
