/-
  Layer 9 (number), the walks: the program's scan (skip, digits, number) and number.Check, at every row of bytes.
-/
import Derived.Test.YthndgekjccclnaaGreatDoorNumSpec
import Derived.Test.YthndgekjccclnaaGreatDoorShelf
import Derived.WalkKit
import Derived.WalkSpells
import Derived.WalkLawsBesides
import Derived.BigQuiet
import Derived.Deep.QuietTactic
import Derived.Lib.Hide
namespace Go.Proofs.YthndgekjccclnaaGreatDoor
open Go.RowKit Num
set_option linter.unusedVariables false
set_option linter.unusedSimpArgs false

/-- A row of bytes lies in memory, in a block below B. -/
def RB (w : World) (B : Nat) (a : Option Addr) (l : List UInt8) : Prop :=
  l = [] ∨ ∃ b off, a = some ⟨b, off, none⟩ ∧ b < B ∧ ∀ (j : Nat) (h : j < l.length), w.cell? ⟨b, off + j, none⟩ = some (.int .u8 (l[j].toNat))
theorem RB.on {w w' : World} {B : Nat} {a : Option Addr} {l : List UInt8} (h : RB w B a l) (hb : Below B w w') : RB w' B a l := by
  rcases h with h | ⟨b, off, e, hlt, hc⟩
  · exact .inl h
  · exact .inr ⟨b, off, e, hlt, fun j hj => (hb.cell (p := ⟨b, off + j, none⟩) hlt).trans (hc j hj)⟩
theorem RB.mono {w : World} {B B' : Nat} {a : Option Addr} {l : List UInt8} (h : RB w B a l) (hB : B ≤ B') : RB w B' a l := by
  rcases h with h | ⟨b, off, e, hlt, hc⟩
  · exact .inl h
  · exact .inr ⟨b, off, e, Nat.lt_of_lt_of_le hlt hB, hc⟩

/-- The scan lies in block g: its bytes, its place. -/
def SC (w : World) (g : Nat) (sv : Value) (i : Nat) : Prop := w.heap[g]? = some (.cells #[sv, .int .i64 i] 136 (0, 0))
/-- What a step of the scan does: its place is another; nothing below it has turned. -/
def Sc (w w' : World) (g : Nat) (sv : Value) (i : Nat) : Prop := SC w' g sv i ∧ Below g w w' ∧ w'.heap.size = w.heap.size
theorem Sc.refl {w : World} {g : Nat} {sv : Value} {i : Nat} (h : SC w g sv i) : Sc w w g sv i := ⟨h, Below.refl _ _, rfl⟩
theorem Sc.trans {w w1 w2 : World} {g : Nat} {sv : Value} {i j : Nat} (h : Sc w w1 g sv i) (k : Sc w1 w2 g sv j) : Sc w w2 g sv j := ⟨k.1, h.2.1.trans k.2.1, k.2.2.trans h.2.2⟩
theorem Sc.draws {w w1 : World} {g : Nat} {sv : Value} {i : Nat} (h : Sc w w1 g sv i) (n : Nat) : Sc w (w1.drewN n) g sv i := ⟨h.1, ⟨h.2.1.os, h.2.1.tape, h.2.1.output, h.2.1.size, h.2.1.block⟩, h.2.2⟩
theorem SC.c0 {w : World} {g : Nat} {sv : Value} {i : Nat} (h : SC w g sv i) : w.cell? ⟨g, 0, none⟩ = some sv := by rw [cell_of_row w g 0 _ _ _ h]; rfl
theorem SC.c1 {w : World} {g : Nat} {sv : Value} {i : Nat} (h : SC w g sv i) : w.cell? ⟨g, 1, none⟩ = some (.int .i64 i) := by rw [cell_of_row w g 1 _ _ _ h]; rfl
theorem SC.fr {w : World} {g : Nat} {sv : Value} {i : Nat} (h : SC w g sv i) : w.frozen? ⟨g, 1, none⟩ = false := by unfold SC at h; simp [World.frozen?, h]
theorem SC.set {w : World} {g : Nat} {sv : Value} {i : Nat} (h : SC w g sv i) (n : Nat) : Sc w ((w.drewN n).setCell ⟨g, 1, none⟩ (.int .i64 ((i : Int) + 1))) g sv (i + 1) := by
  refine ⟨?_, ?_, by simp [World.setCell, World.drewN]⟩
  · unfold SC at h ⊢
    simp [World.setCell, World.drewN, Array.getElem?_modify, h]
  · exact Below.setCell (Sc.draws (Sc.refl h) n).2.1 (Nat.le_refl _) _

theorem hasAt_false_of_ge {l : List UInt8} {i : Nat} {some : List UInt8} (h : l.length ≤ i) : hasAt l i some = false := by
  unfold hasAt; rw [List.getElem?_eq_none h]

set_option maxHeartbeats 400000 in
theorem skip_no (g c i : Nat) (A : Option Addr) (s : ByteArray) (l : List UInt8) (w : World) (hsc : SC w g (.slice A l.length c) i) (hi : l.length ≤ i) (hn : i ≤ 9223372036854775806) :
    Calls Tryz.prog 116 #[.pointer (some ⟨g, 0, none⟩), .string s] w fun e w' => e = .returned (.bool false) ∧ ∃ k, w' = w.drewN k := by
  have h0 := hsc.c0
  have h1 := hsc.c1
  have hd : decide (i < l.length) = false := by simp; omega
  have hd' : decide ((i : Int) < (l.length : Int)) = false := by simp; omega
  clear hsc
  go_enter Tryz.func116, Tryz.ntmps116
  go_wp2
  go_quiet (fail)
  go_wp2
  go_ret
  exact ⟨rfl, _, rfl⟩

/-- IndexByte at a byte, its answer's sign alone. -/
theorem indexByte_mem (l : List UInt8) (c : UInt8) : decide ((0 : Int) ≤ Lib.indexByte l c) = l.contains c := by
  induction l with
  | nil => rfl
  | cons b l ih =>
    unfold Lib.indexByte
    by_cases h : b == c
    · have : b = c := by simpa using h
      subst this; simp
    · have h' : (c == b) = false := by
        rw [Bool.eq_false_iff]; intro e; apply h; have : c = b := by simpa using e
        subst this; simp
      rw [List.contains_cons, h', ← ih]
      have := Lib.indexByte_ge l c
      simp only [h, Bool.false_or, if_false, Bool.false_eq_true]
      by_cases e : Lib.indexByte l c = -1
      · simp [e]
      · have e' : (Lib.indexByte l c == -1) = false := by simpa using e
        rw [e']; simp only [Bool.false_eq_true, if_false]
        have : (0 : Int) ≤ Lib.indexByte l c := by omega
        simp [this]; omega
theorem byte_back (c : UInt8) : (c.toNat : Int).toNat.toUInt8 = c := by
  simp

theorem ret_bool {a b : Bool} (h : a = b) : Ending.returned (.bool a) = .returned (.bool b) := by rw [h]

set_option maxHeartbeats 400000 in
theorem skip_in (g b off c i : Nat) (s : ByteArray) (l : List UInt8) (w : World) (hsc : SC w g (.slice (some ⟨b, off, none⟩) l.length c) i) (hi : i < l.length) (hn : i ≤ 9223372036854775806)
    (hb : w.cell? ⟨b, off + i, none⟩ = some (.int .u8 (l[i].toNat))) :
    Calls Tryz.prog 116 #[.pointer (some ⟨g, 0, none⟩), .string s] w fun e w' => e = .returned (.bool (hasAt l i s.data.toList)) ∧
      Sc w w' g (.slice (some ⟨b, off, none⟩) l.length c) (skipTo l i s.data.toList) := by
  have h0 := hsc.c0
  have h1 := hsc.c1
  have h2 := hsc.fr
  have hd : decide ((i : Int) < (l.length : Int)) = true := by simp; omega
  have hhas : hasAt l i s.data.toList = s.data.toList.contains l[i] := by unfold hasAt; rw [List.getElem?_eq_getElem hi]
  have hib : ∀ W, Calls Tryz.prog 141 #[.string s, .int .u8 (l[i].toNat)] W fun e w' => e = .returned (.int .i64 (Lib.indexByte s.data.toList l[i])) ∧ w' = W := by
    intro W
    have := Tryz.strings_IndexByte s (l[i].toNat) W
    rwa [byte_back] at this
  generalize hc : l[i] = x at *
  have hmem := indexByte_mem s.data.toList x
  generalize Lib.indexByte s.data.toList x = ix at *
  cases hx : s.data.toList.contains x
  all_goals
    rw [hx] at hmem hhas
    have hmem' : decide (0 ≤ ix) = _ := hmem
    have hi0 : (0 : Int) ≤ i := by omega
    have HS := Lib.hid hsc
    have HH := Lib.hid hhas
    clear hsc hhas hx hc hmem
    go_enter Tryz.func116, Tryz.ntmps116
    go_wp2
    go_quiet ((go_at_call 141; exact Calls.quiet_of_same (hib _)))
    go_wp2
    go_ret
  · exact ⟨ret_bool HH.out.symm, by unfold skipTo; rw [HH.out]; exact (Sc.refl HS.out).draws _⟩
  · exact ⟨ret_bool HH.out.symm, by unfold skipTo; rw [HH.out]; exact HS.out.set _⟩

/-- skip, wherever the scan stands. -/
theorem skip_any (g c i : Nat) (A : Option Addr) (s : ByteArray) (l : List UInt8) (w : World) (hsc : SC w g (.slice A l.length c) i) (hr : RB w g A l) (hn : i ≤ 9223372036854775806) :
    Calls Tryz.prog 116 #[.pointer (some ⟨g, 0, none⟩), .string s] w fun e w' => e = .returned (.bool (hasAt l i s.data.toList)) ∧
      Sc w w' g (.slice A l.length c) (skipTo l i s.data.toList) := by
  by_cases hi : i < l.length
  · rcases hr with h | ⟨b, off, rfl, hlt, hc⟩
    · subst h; simp at hi
    · exact skip_in g b off c i s l w hsc hi hn (hc i hi)
  · refine (skip_no g c i A s l w hsc (by omega) hn).mono ?_
    rintro e w' ⟨rfl, k, rfl⟩
    have := hasAt_false_of_ge (some := s.data.toList) (Nat.le_of_not_lt hi)
    exact ⟨ret_bool this.symm, by unfold skipTo; rw [this]; exact (Sc.refl hsc).draws _⟩

def ten : List UInt8 := [48, 49, 50, 51, 52, 53, 54, 55, 56, 57]
theorem ten_isD (c : UInt8) : ten.contains c = isD c := by
  revert c
  have : ∀ n, n < 256 → ten.contains (UInt8.ofNat n) = isD (UInt8.ofNat n) := by decide +kernel
  intro c
  have h := this c.toNat c.toNat_lt
  simpa using h
theorem hasAt_run (l : List UInt8) (i k : Nat) (h : k ≤ run (l.drop i)) : hasAt l (i + k) ten = decide (k < run (l.drop i)) := by
  have e : l[i + k]? = (l.drop i)[k]? := by rw [List.getElem?_drop]
  unfold hasAt; rw [e]
  generalize l.drop i = r at *
  clear e
  induction r generalizing k with
  | nil => simp [run] at *
  | cons x r ih =>
    unfold run at h ⊢
    rw [List.takeWhile_cons] at h ⊢
    by_cases hx : isD x = true
    · rw [if_pos hx] at h ⊢
      cases k with
      | zero => simp only [List.getElem?_cons_zero]; rw [ten_isD, hx]; simp
      | succ k =>
        simp only [List.getElem?_cons_succ, List.length_cons] at h ⊢
        rw [ih k (by unfold run; omega)]
        unfold run; simp
    · rw [if_neg hx] at h ⊢
      have : k = 0 := by simpa using h
      subst this
      simp only [List.getElem?_cons_zero]; rw [ten_isD]; simp [hx]
theorem run_le (l : List UInt8) : run l ≤ l.length := by
  unfold run
  have := (List.takeWhile_sublist (p := isD) (l := l)).length_le
  exact this
theorem run_drop_le (l : List UInt8) (i : Nat) : run (l.drop i) ≤ l.length - i := by
  have := run_le (l.drop i); simpa using this

/-- skip over a digit, as the loop's round meets it. -/
theorem skip_ten (g c i r k : Nat) (A : Option Addr) (l : List UInt8) (w0 w : World) (hs : Sc w0 w g (.slice A l.length c) (i + k)) (hr : RB w0 g A l) (hir : i + r ≤ l.length) (hk : k ≤ r) (hn : l.length ≤ 9223372036854775806)
    (H : hasAt l (i + k) ten = decide (k < r)) :
    Calls Tryz.prog 116 #[.pointer (some ⟨g, 0, none⟩), .string ⟨#[48, 49, 50, 51, 52, 53, 54, 55, 56, 57]⟩] w fun e w' => e = .returned (.bool (decide (k < r))) ∧ Sc w0 w' g (.slice A l.length c) (if k < r then i + (k + 1) else i + k) := by
  refine (skip_any g c _ A _ l w hs.1 (hr.on hs.2.1) (by omega)).mono ?_
  rintro e w' ⟨rfl, h⟩
  have h' : Sc w w' g (.slice A l.length c) (skipTo l (i + k) ten) := h
  unfold skipTo at h'
  rw [H] at h'
  refine ⟨ret_bool H, ?_⟩
  by_cases hkr : k < r
  · simp only [hkr, decide_true, if_true] at h' ⊢
    exact hs.trans h'
  · simp only [hkr, decide_false, if_false, Bool.false_eq_true] at h' ⊢
    exact hs.trans h'

theorem ret_int {k : IntKind} {a b : Int} (h : a = b) : Ending.returned (.int k a) = .returned (.int k b) := by rw [h]

set_option maxHeartbeats 400000 in
theorem digits_walk (g c i r : Nat) (A : Option Addr) (l : List UInt8) (w : World) (hsc : SC w g (.slice A l.length c) i) (hr : RB w g A l) (hir : i + r ≤ l.length) (hn : l.length ≤ 9223372036854775806)
    (H : ∀ k, k ≤ r → hasAt l (i + k) ten = decide (k < r)) :
    Calls Tryz.prog 117 #[.pointer (some ⟨g, 0, none⟩)] w fun e w' => e = .returned (.int .i64 (if 0 < r then 0 else if i = l.length then 3 else 90)) ∧
      Sc w w' g (.slice A l.length c) (i + r) := by
  have h1 := hsc.c1
  have HS := Lib.hid hsc
  have HR := Lib.hid hr
  have HH := Lib.hid H
  clear hsc hr H
  go_enter Tryz.func117, Tryz.ntmps117
  go_wp2
  go_loopg [] r (fun k wr => k ≤ r ∧ Sc w wr g (.slice A l.length c) (i + (r - k)))
  case atStart => exact ⟨Nat.le_refl _, by rw [Nat.sub_self]; exact Sc.refl HS.out⟩
  case round =>
    obtain ⟨hk, hs⟩ := hrel
    have HK := skip_ten g c i r (r - gk) A l w wr hs HR.out hir (by omega) hn (HH.out _ (by omega))
    clear h1
    by_cases hz : gk = 0
    · subst hz
      rw [Nat.sub_zero] at hs HK
      simp only [Nat.lt_irrefl, decide_false, if_false] at HK
      by_cases hr0 : 0 < r
      · go_wp2_with (go_at_call 116; refine HK.mono ?_; rintro e w' ⟨rfl, hw⟩; have k1 := hw.1.c1; have HW := Lib.hid hw; clear hw)
        go_ret
        exact ⟨rfl, HW.out⟩
      · obtain rfl : r = 0 := by omega
        by_cases he : i = l.length
        · have he' : ((i : Int) == (l.length : Int)) = true := by simp [he]
          have HE := Lib.hid he
          clear he
          go_wp2_with (go_at_call 116; refine HK.mono ?_; rintro e w' ⟨rfl, hw⟩; have k1 := hw.1.c1; have k0 := hw.1.c0; have HW := Lib.hid hw; clear hw)
          go_quiet (fail)
          go_wp2
          go_ret
          exact ⟨rfl, by have := HW.out.draws nq; rw [Nat.add_zero, HE.out] at this; exact this⟩
        · have he' : ((i : Int) == (l.length : Int)) = false := by simp; omega
          have HE := Lib.hid he
          clear he
          go_wp2_with (go_at_call 116; refine HK.mono ?_; rintro e w' ⟨rfl, hw⟩; have k1 := hw.1.c1; have k0 := hw.1.c0; have HW := Lib.hid hw; clear hw)
          go_quiet (fail)
          go_wp2
          go_ret
          exact ⟨ret_int (by have := HE.out; simp [this]), HW.out.draws _⟩
    · go_wp2_with (go_at_call 116; refine HK.mono ?_; rintro e w' ⟨rfl, hw⟩; have HW := Lib.hid hw; clear hw)
      go_roundg (gk - 1)
      case measure => omega
      case rel => exact ⟨by omega, by have := HW.out; simp only [show r - gk < r from by omega, if_true] at this; rw [show r - (gk - 1) = r - gk + 1 from by omega]; exact this⟩

/-- digits, wherever the scan stands. -/
theorem digits_any (g c i : Nat) (A : Option Addr) (l : List UInt8) (w : World) (hsc : SC w g (.slice A l.length c) i) (hr : RB w g A l) (hi : i ≤ l.length) (hn : l.length ≤ 9223372036854775806) :
    Calls Tryz.prog 117 #[.pointer (some ⟨g, 0, none⟩)] w fun e w' => e = .returned (.int .i64 (digErr l i)) ∧
      Sc w w' g (.slice A l.length c) (digTo l i) :=
  digits_walk g c i (run (l.drop i)) A l w hsc hr (by have := run_drop_le l i; omega) hn (fun k hk => hasAt_run l i k hk)

/-- skip, its answer known; the world behind it is told from the first on. -/
theorem skip_yes (g c i : Nat) (A : Option Addr) (cs l : List UInt8) (w0 w : World) (hs : Hid (Sc w0 w g (.slice A l.length c) i)) (hr : RB w0 g A l) (hn : i ≤ 9223372036854775806) (h : hasAt l i cs = true) :
    Calls Tryz.prog 116 #[.pointer (some ⟨g, 0, none⟩), .string ⟨cs.toArray⟩] w fun e w' => e = .returned (.bool true) ∧ Hid (Sc w0 w' g (.slice A l.length c) (i + 1)) := by
  refine (skip_any g c i A ⟨cs.toArray⟩ l w hs.out.1 (hr.on hs.out.2.1) hn).mono ?_
  rintro e w' ⟨rfl, k⟩
  have h' : hasAt l i (ByteArray.mk cs.toArray).data.toList = true := h
  unfold skipTo at k
  rw [h'] at k
  exact ⟨ret_bool h', Lib.hid (hs.out.trans k)⟩
theorem skip_not (g c i : Nat) (A : Option Addr) (cs l : List UInt8) (w0 w : World) (hs : Hid (Sc w0 w g (.slice A l.length c) i)) (hr : RB w0 g A l) (hn : i ≤ 9223372036854775806) (h : hasAt l i cs = false) :
    Calls Tryz.prog 116 #[.pointer (some ⟨g, 0, none⟩), .string ⟨cs.toArray⟩] w fun e w' => e = .returned (.bool false) ∧ Hid (Sc w0 w' g (.slice A l.length c) i) := by
  refine (skip_any g c i A ⟨cs.toArray⟩ l w hs.out.1 (hr.on hs.out.2.1) hn).mono ?_
  rintro e w' ⟨rfl, k⟩
  have h' : hasAt l i (ByteArray.mk cs.toArray).data.toList = false := h
  unfold skipTo at k
  rw [h'] at k
  exact ⟨ret_bool h', Lib.hid (hs.out.trans k)⟩
theorem skip_some (g c i : Nat) (A : Option Addr) (cs l : List UInt8) (w0 w : World) (hs : Hid (Sc w0 w g (.slice A l.length c) i)) (hr : RB w0 g A l) (hn : i ≤ 9223372036854775806) :
    Calls Tryz.prog 116 #[.pointer (some ⟨g, 0, none⟩), .string ⟨cs.toArray⟩] w fun e w' => (∃ v, e = .returned (.bool v)) ∧ Hid (Sc w0 w' g (.slice A l.length c) (skipTo l i cs)) := by
  refine (skip_any g c i A ⟨cs.toArray⟩ l w hs.out.1 (hr.on hs.out.2.1) hn).mono ?_
  rintro e w' ⟨rfl, k⟩
  exact ⟨⟨_, rfl⟩, Lib.hid (hs.out.trans k)⟩
theorem digits_is (g c i : Nat) (A : Option Addr) (l : List UInt8) (w0 w : World) (hs : Hid (Sc w0 w g (.slice A l.length c) i)) (hr : RB w0 g A l) (hi : i ≤ l.length) (hn : l.length ≤ 9223372036854775806) (v : Int) (hv : digErr l i = v) :
    Calls Tryz.prog 117 #[.pointer (some ⟨g, 0, none⟩)] w fun e w' => e = .returned (.int .i64 v) ∧ Hid (Sc w0 w' g (.slice A l.length c) (digTo l i)) := by
  subst hv
  refine (digits_any g c i A l w hs.out.1 (hr.on hs.out.2.1) hi hn).mono ?_
  rintro e w' ⟨rfl, k⟩
  exact ⟨rfl, Lib.hid (hs.out.trans k)⟩
theorem digTo_le (l : List UInt8) (i : Nat) (h : i ≤ l.length) : digTo l i ≤ l.length := by
  unfold digTo; have := run_drop_le l i; omega
theorem hasAt_lt {l : List UInt8} {i : Nat} {cs : List UInt8} (h : hasAt l i cs = true) : i < l.length := by
  by_cases k : i < l.length
  · exact k
  · rw [hasAt_false_of_ge (Nat.le_of_not_lt k)] at h; cases h
theorem skipTo_le (l : List UInt8) (i : Nat) (cs : List UInt8) (h : i ≤ l.length) : skipTo l i cs ≤ l.length := by
  unfold skipTo; split
  · rename_i k; have := hasAt_lt k; omega
  · exact h
theorem digErr_cases (l : List UInt8) (i : Nat) : digErr l i = 0 ∨ digErr l i = 3 ∨ digErr l i = 90 := by
  unfold digErr; split
  · exact .inl rfl
  · split
    · exact .inr (.inl rfl)
    · exact .inr (.inr rfl)
end Go.Proofs.YthndgekjccclnaaGreatDoor
