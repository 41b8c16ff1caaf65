/-
  Joined texts: NumScan NumNumber NumCheck NumLib.
-/
import Derived.Test.YtfploakafbnigaaGreatDoorCNumSpec
import Derived.Test.YtfploakafbnigaaGreatDoorShelf
import Derived.WalkKit
import Derived.WalkSpells
import Derived.WalkLawsBesides
import Derived.BigQuiet
import Derived.Deep.QuietTactic
import Derived.Lib.Hide
import Derived.Lib.Atoi
import Derived.Lib.IndexAny
import Derived.Lib.ConvBytes
import Derived.Shelf.Strings.SlTrimAscii
namespace Go.Proofs.YtfploakafbnigaaGreatDoor
open Go.RowKit Num
set_option linter.unusedVariables false
set_option linter.unusedSimpArgs false
/-- A row of bytes lies in memory, in a block below B. -/
def RB (w : World) (B : Nat) (a : Option Addr) (l : List UInt8) : Prop :=
  l = [] ∨ ∃ b off, a = some ⟨b, off, none⟩ ∧ b < B ∧ ∀ (j : Nat) (h : j < l.length), w.cell? ⟨b, off + j, none⟩ = some (.int .u8 (l[j].toNat))
theorem RB.on {w w' : World} {B : Nat} {a : Option Addr} {l : List UInt8} (h : RB w B a l) (hb : Below B w w') : RB w' B a l := by
  rcases h with h | ⟨b, off, e, hlt, hc⟩
  · exact .inl h
  · exact .inr ⟨b, off, e, hlt, fun j hj => (hb.cell (p := ⟨b, off + j, none⟩) hlt).trans (hc j hj)⟩
theorem RB.mono {w : World} {B B' : Nat} {a : Option Addr} {l : List UInt8} (h : RB w B a l) (hB : B ≤ B') : RB w B' a l := by
  rcases h with h | ⟨b, off, e, hlt, hc⟩
  · exact .inl h
  · exact .inr ⟨b, off, e, Nat.lt_of_lt_of_le hlt hB, hc⟩
/-- The scan lies in block g: its bytes, its place. -/
def SC (w : World) (g : Nat) (sv : Value) (i : Nat) : Prop := w.heap[g]? = some (.cells #[sv, .int .i64 i] 255 (0, 0))
/-- What a step of the scan does: its place is another; nothing below it has turned. -/
def Sc (w w' : World) (g : Nat) (sv : Value) (i : Nat) : Prop := SC w' g sv i ∧ Below g w w' ∧ w'.heap.size = w.heap.size
theorem Sc.refl {w : World} {g : Nat} {sv : Value} {i : Nat} (h : SC w g sv i) : Sc w w g sv i := ⟨h, Below.refl _ _, rfl⟩
theorem Sc.trans {w w1 w2 : World} {g : Nat} {sv : Value} {i j : Nat} (h : Sc w w1 g sv i) (k : Sc w1 w2 g sv j) : Sc w w2 g sv j := ⟨k.1, h.2.1.trans k.2.1, k.2.2.trans h.2.2⟩
theorem Sc.draws {w w1 : World} {g : Nat} {sv : Value} {i : Nat} (h : Sc w w1 g sv i) (n : Nat) : Sc w (w1.drewN n) g sv i := ⟨h.1, ⟨h.2.1.os, h.2.1.tape, h.2.1.output, h.2.1.size, h.2.1.block⟩, h.2.2⟩
theorem SC.c0 {w : World} {g : Nat} {sv : Value} {i : Nat} (h : SC w g sv i) : w.cell? ⟨g, 0, none⟩ = some sv := by rw [cell_of_row w g 0 _ _ _ h]; rfl
theorem SC.c1 {w : World} {g : Nat} {sv : Value} {i : Nat} (h : SC w g sv i) : w.cell? ⟨g, 1, none⟩ = some (.int .i64 i) := by rw [cell_of_row w g 1 _ _ _ h]; rfl
theorem SC.fr {w : World} {g : Nat} {sv : Value} {i : Nat} (h : SC w g sv i) : w.frozen? ⟨g, 1, none⟩ = false := by unfold SC at h; simp [World.frozen?, h]
theorem SC.set {w : World} {g : Nat} {sv : Value} {i : Nat} (h : SC w g sv i) (n : Nat) : Sc w ((w.drewN n).setCell ⟨g, 1, none⟩ (.int .i64 ((i : Int) + 1))) g sv (i + 1) := by
  refine ⟨?_, ?_, by simp [World.setCell, World.drewN]⟩
  · unfold SC at h ⊢
    simp [World.setCell, World.drewN, Array.getElem?_modify, h]
  · exact Below.setCell (Sc.draws (Sc.refl h) n).2.1 (Nat.le_refl _) _
theorem hasAt_false_of_ge {l : List UInt8} {i : Nat} {some : List UInt8} (h : l.length ≤ i) : hasAt l i some = false := by
  unfold hasAt; rw [List.getElem?_eq_none h]
set_option maxHeartbeats 400000 in
theorem skip_no (g c i : Nat) (A : Option Addr) (s : ByteArray) (l : List UInt8) (w : World) (hsc : SC w g (.slice A l.length c) i) (hi : l.length ≤ i) (hn : i ≤ 9223372036854775806) :
    Calls Tryz.prog 245 #[.pointer (some ⟨g, 0, none⟩), .string s] w fun e w' => e = .returned (.bool false) ∧ ∃ k, w' = w.drewN k := by
  have h0 := hsc.c0
  have h1 := hsc.c1
  have hd : decide (i < l.length) = false := by simp; omega
  have hd' : decide ((i : Int) < (l.length : Int)) = false := by simp; omega
  clear hsc
  go_enter Tryz.func245, Tryz.ntmps245
  go_wp2
  go_quiet (fail)
  go_wp2
  go_ret
  exact ⟨rfl, _, rfl⟩
/-- IndexByte at a byte, its answer's sign alone. -/
theorem indexByte_mem (l : List UInt8) (c : UInt8) : decide ((0 : Int) ≤ Lib.indexByte l c) = l.contains c := by
  induction l with
  | nil => rfl
  | cons b l ih =>
    unfold Lib.indexByte
    by_cases h : b == c
    · have : b = c := by simpa using h
      subst this; simp
    · have h' : (c == b) = false := by
        rw [Bool.eq_false_iff]; intro e; apply h; have : c = b := by simpa using e
        subst this; simp
      rw [List.contains_cons, h', ← ih]
      have := Lib.indexByte_ge l c
      simp only [h, Bool.false_or, if_false, Bool.false_eq_true]
      by_cases e : Lib.indexByte l c = -1
      · simp [e]
      · have e' : (Lib.indexByte l c == -1) = false := by simpa using e
        rw [e']; simp only [Bool.false_eq_true, if_false]
        have : (0 : Int) ≤ Lib.indexByte l c := by omega
        simp [this]; omega
theorem byte_back (c : UInt8) : (c.toNat : Int).toNat.toUInt8 = c := by
  simp
theorem ret_bool {a b : Bool} (h : a = b) : Ending.returned (.bool a) = .returned (.bool b) := by rw [h]
set_option maxHeartbeats 400000 in
theorem skip_in (g b off c i : Nat) (s : ByteArray) (l : List UInt8) (w : World) (hsc : SC w g (.slice (some ⟨b, off, none⟩) l.length c) i) (hi : i < l.length) (hn : i ≤ 9223372036854775806)
    (hb : w.cell? ⟨b, off + i, none⟩ = some (.int .u8 (l[i].toNat))) :
    Calls Tryz.prog 245 #[.pointer (some ⟨g, 0, none⟩), .string s] w fun e w' => e = .returned (.bool (hasAt l i s.data.toList)) ∧
      Sc w w' g (.slice (some ⟨b, off, none⟩) l.length c) (skipTo l i s.data.toList) := by
  have h0 := hsc.c0
  have h1 := hsc.c1
  have h2 := hsc.fr
  have hd : decide ((i : Int) < (l.length : Int)) = true := by simp; omega
  have hhas : hasAt l i s.data.toList = s.data.toList.contains l[i] := by unfold hasAt; rw [List.getElem?_eq_getElem hi]
  have hib : ∀ W, Calls Tryz.prog 247 #[.string s, .int .u8 (l[i].toNat)] W fun e w' => e = .returned (.int .i64 (Lib.indexByte s.data.toList l[i])) ∧ w' = W := by
    intro W
    have := Tryz.strings_IndexByte s (l[i].toNat) W
    rwa [byte_back] at this
  generalize hc : l[i] = x at *
  have hmem := indexByte_mem s.data.toList x
  generalize Lib.indexByte s.data.toList x = ix at *
  cases hx : s.data.toList.contains x
  all_goals
    rw [hx] at hmem hhas
    have hmem' : decide (0 ≤ ix) = _ := hmem
    have hi0 : (0 : Int) ≤ i := by omega
    have HS := Lib.hid hsc
    have HH := Lib.hid hhas
    clear hsc hhas hx hc hmem
    go_enter Tryz.func245, Tryz.ntmps245
    go_wp2
    go_quiet ((go_at_call 247; exact Calls.quiet_of_same (hib _)))
    go_wp2
    go_ret
  · exact ⟨ret_bool HH.out.symm, by unfold skipTo; rw [HH.out]; exact (Sc.refl HS.out).draws _⟩
  · exact ⟨ret_bool HH.out.symm, by unfold skipTo; rw [HH.out]; exact HS.out.set _⟩
/-- skip, wherever the scan stands. -/
theorem skip_any (g c i : Nat) (A : Option Addr) (s : ByteArray) (l : List UInt8) (w : World) (hsc : SC w g (.slice A l.length c) i) (hr : RB w g A l) (hn : i ≤ 9223372036854775806) :
    Calls Tryz.prog 245 #[.pointer (some ⟨g, 0, none⟩), .string s] w fun e w' => e = .returned (.bool (hasAt l i s.data.toList)) ∧
      Sc w w' g (.slice A l.length c) (skipTo l i s.data.toList) := by
  by_cases hi : i < l.length
  · rcases hr with h | ⟨b, off, rfl, hlt, hc⟩
    · subst h; simp at hi
    · exact skip_in g b off c i s l w hsc hi hn (hc i hi)
  · refine (skip_no g c i A s l w hsc (by omega) hn).mono ?_
    rintro e w' ⟨rfl, k, rfl⟩
    have := hasAt_false_of_ge (some := s.data.toList) (Nat.le_of_not_lt hi)
    exact ⟨ret_bool this.symm, by unfold skipTo; rw [this]; exact (Sc.refl hsc).draws _⟩
def ten : List UInt8 := [48, 49, 50, 51, 52, 53, 54, 55, 56, 57]
theorem ten_isD (c : UInt8) : ten.contains c = isD c := by
  revert c
  have : ∀ n, n < 256 → ten.contains (UInt8.ofNat n) = isD (UInt8.ofNat n) := by decide +kernel
  intro c
  have h := this c.toNat c.toNat_lt
  simpa using h
theorem hasAt_run (l : List UInt8) (i k : Nat) (h : k ≤ run (l.drop i)) : hasAt l (i + k) ten = decide (k < run (l.drop i)) := by
  have e : l[i + k]? = (l.drop i)[k]? := by rw [List.getElem?_drop]
  unfold hasAt; rw [e]
  generalize l.drop i = r at *
  clear e
  induction r generalizing k with
  | nil => simp [run] at *
  | cons x r ih =>
    unfold run at h ⊢
    rw [List.takeWhile_cons] at h ⊢
    by_cases hx : isD x = true
    · rw [if_pos hx] at h ⊢
      cases k with
      | zero => simp only [List.getElem?_cons_zero]; rw [ten_isD, hx]; simp
      | succ k =>
        simp only [List.getElem?_cons_succ, List.length_cons] at h ⊢
        rw [ih k (by unfold run; omega)]
        unfold run; simp
    · rw [if_neg hx] at h ⊢
      have : k = 0 := by simpa using h
      subst this
      simp only [List.getElem?_cons_zero]; rw [ten_isD]; simp [hx]
theorem run_le (l : List UInt8) : run l ≤ l.length := by
  unfold run
  have := (List.takeWhile_sublist (p := isD) (l := l)).length_le
  exact this
theorem run_drop_le (l : List UInt8) (i : Nat) : run (l.drop i) ≤ l.length - i := by
  have := run_le (l.drop i); simpa using this
/-- skip over a digit, as the loop's round meets it. -/
theorem skip_ten (g c i r k : Nat) (A : Option Addr) (l : List UInt8) (w0 w : World) (hs : Sc w0 w g (.slice A l.length c) (i + k)) (hr : RB w0 g A l) (hir : i + r ≤ l.length) (hk : k ≤ r) (hn : l.length ≤ 9223372036854775806)
    (H : hasAt l (i + k) ten = decide (k < r)) :
    Calls Tryz.prog 245 #[.pointer (some ⟨g, 0, none⟩), .string ⟨#[48, 49, 50, 51, 52, 53, 54, 55, 56, 57]⟩] w fun e w' => e = .returned (.bool (decide (k < r))) ∧ Sc w0 w' g (.slice A l.length c) (if k < r then i + (k + 1) else i + k) := by
  refine (skip_any g c _ A _ l w hs.1 (hr.on hs.2.1) (by omega)).mono ?_
  rintro e w' ⟨rfl, h⟩
  have h' : Sc w w' g (.slice A l.length c) (skipTo l (i + k) ten) := h
  unfold skipTo at h'
  rw [H] at h'
  refine ⟨ret_bool H, ?_⟩
  by_cases hkr : k < r
  · simp only [hkr, decide_true, if_true] at h' ⊢
    exact hs.trans h'
  · simp only [hkr, decide_false, if_false, Bool.false_eq_true] at h' ⊢
    exact hs.trans h'
theorem ret_int {k : IntKind} {a b : Int} (h : a = b) : Ending.returned (.int k a) = .returned (.int k b) := by rw [h]
set_option maxHeartbeats 400000 in
theorem digits_walk (g c i r : Nat) (A : Option Addr) (l : List UInt8) (w : World) (hsc : SC w g (.slice A l.length c) i) (hr : RB w g A l) (hir : i + r ≤ l.length) (hn : l.length ≤ 9223372036854775806)
    (H : ∀ k, k ≤ r → hasAt l (i + k) ten = decide (k < r)) :
    Calls Tryz.prog 246 #[.pointer (some ⟨g, 0, none⟩)] w fun e w' => e = .returned (.int .i64 (if 0 < r then 0 else if i = l.length then 3 else 90)) ∧
      Sc w w' g (.slice A l.length c) (i + r) := by
  have h1 := hsc.c1
  have HS := Lib.hid hsc
  have HR := Lib.hid hr
  have HH := Lib.hid H
  clear hsc hr H
  go_enter Tryz.func246, Tryz.ntmps246
  go_wp2
  go_loopg [] r (fun k wr => k ≤ r ∧ Sc w wr g (.slice A l.length c) (i + (r - k)))
  case atStart => exact ⟨Nat.le_refl _, by rw [Nat.sub_self]; exact Sc.refl HS.out⟩
  case round =>
    obtain ⟨hk, hs⟩ := hrel
    have HK := skip_ten g c i r (r - gk) A l w wr hs HR.out hir (by omega) hn (HH.out _ (by omega))
    clear h1
    by_cases hz : gk = 0
    · subst hz
      rw [Nat.sub_zero] at hs HK
      simp only [Nat.lt_irrefl, decide_false, if_false] at HK
      by_cases hr0 : 0 < r
      · go_wp2_with (go_at_call 245; refine HK.mono ?_; rintro e w' ⟨rfl, hw⟩; have k1 := hw.1.c1; have HW := Lib.hid hw; clear hw)
        go_ret
        exact ⟨rfl, HW.out⟩
      · obtain rfl : r = 0 := by omega
        by_cases he : i = l.length
        · have he' : ((i : Int) == (l.length : Int)) = true := by simp [he]
          have HE := Lib.hid he
          clear he
          go_wp2_with (go_at_call 245; refine HK.mono ?_; rintro e w' ⟨rfl, hw⟩; have k1 := hw.1.c1; have k0 := hw.1.c0; have HW := Lib.hid hw; clear hw)
          go_quiet (fail)
          go_wp2
          go_ret
          exact ⟨rfl, by have := HW.out.draws nq; rw [Nat.add_zero, HE.out] at this; exact this⟩
        · have he' : ((i : Int) == (l.length : Int)) = false := by simp; omega
          have HE := Lib.hid he
          clear he
          go_wp2_with (go_at_call 245; refine HK.mono ?_; rintro e w' ⟨rfl, hw⟩; have k1 := hw.1.c1; have k0 := hw.1.c0; have HW := Lib.hid hw; clear hw)
          go_quiet (fail)
          go_wp2
          go_ret
          exact ⟨ret_int (by have := HE.out; simp [this]), HW.out.draws _⟩
    · go_wp2_with (go_at_call 245; refine HK.mono ?_; rintro e w' ⟨rfl, hw⟩; have HW := Lib.hid hw; clear hw)
      go_roundg (gk - 1)
      case measure => omega
      case rel => exact ⟨by omega, by have := HW.out; simp only [show r - gk < r from by omega, if_true] at this; rw [show r - (gk - 1) = r - gk + 1 from by omega]; exact this⟩
/-- digits, wherever the scan stands. -/
theorem digits_any (g c i : Nat) (A : Option Addr) (l : List UInt8) (w : World) (hsc : SC w g (.slice A l.length c) i) (hr : RB w g A l) (hi : i ≤ l.length) (hn : l.length ≤ 9223372036854775806) :
    Calls Tryz.prog 246 #[.pointer (some ⟨g, 0, none⟩)] w fun e w' => e = .returned (.int .i64 (digErr l i)) ∧
      Sc w w' g (.slice A l.length c) (digTo l i) :=
  digits_walk g c i (run (l.drop i)) A l w hsc hr (by have := run_drop_le l i; omega) hn (fun k hk => hasAt_run l i k hk)
/-- skip, its answer known; the world behind it is told from the first on. -/
theorem skip_yes (g c i : Nat) (A : Option Addr) (cs l : List UInt8) (w0 w : World) (hs : Hid (Sc w0 w g (.slice A l.length c) i)) (hr : RB w0 g A l) (hn : i ≤ 9223372036854775806) (h : hasAt l i cs = true) :
    Calls Tryz.prog 245 #[.pointer (some ⟨g, 0, none⟩), .string ⟨cs.toArray⟩] w fun e w' => e = .returned (.bool true) ∧ Hid (Sc w0 w' g (.slice A l.length c) (i + 1)) := by
  refine (skip_any g c i A ⟨cs.toArray⟩ l w hs.out.1 (hr.on hs.out.2.1) hn).mono ?_
  rintro e w' ⟨rfl, k⟩
  have h' : hasAt l i (ByteArray.mk cs.toArray).data.toList = true := h
  unfold skipTo at k
  rw [h'] at k
  exact ⟨ret_bool h', Lib.hid (hs.out.trans k)⟩
theorem skip_not (g c i : Nat) (A : Option Addr) (cs l : List UInt8) (w0 w : World) (hs : Hid (Sc w0 w g (.slice A l.length c) i)) (hr : RB w0 g A l) (hn : i ≤ 9223372036854775806) (h : hasAt l i cs = false) :
    Calls Tryz.prog 245 #[.pointer (some ⟨g, 0, none⟩), .string ⟨cs.toArray⟩] w fun e w' => e = .returned (.bool false) ∧ Hid (Sc w0 w' g (.slice A l.length c) i) := by
  refine (skip_any g c i A ⟨cs.toArray⟩ l w hs.out.1 (hr.on hs.out.2.1) hn).mono ?_
  rintro e w' ⟨rfl, k⟩
  have h' : hasAt l i (ByteArray.mk cs.toArray).data.toList = false := h
  unfold skipTo at k
  rw [h'] at k
  exact ⟨ret_bool h', Lib.hid (hs.out.trans k)⟩
theorem skip_some (g c i : Nat) (A : Option Addr) (cs l : List UInt8) (w0 w : World) (hs : Hid (Sc w0 w g (.slice A l.length c) i)) (hr : RB w0 g A l) (hn : i ≤ 9223372036854775806) :
    Calls Tryz.prog 245 #[.pointer (some ⟨g, 0, none⟩), .string ⟨cs.toArray⟩] w fun e w' => (∃ v, e = .returned (.bool v)) ∧ Hid (Sc w0 w' g (.slice A l.length c) (skipTo l i cs)) := by
  refine (skip_any g c i A ⟨cs.toArray⟩ l w hs.out.1 (hr.on hs.out.2.1) hn).mono ?_
  rintro e w' ⟨rfl, k⟩
  exact ⟨⟨_, rfl⟩, Lib.hid (hs.out.trans k)⟩
theorem digits_is (g c i : Nat) (A : Option Addr) (l : List UInt8) (w0 w : World) (hs : Hid (Sc w0 w g (.slice A l.length c) i)) (hr : RB w0 g A l) (hi : i ≤ l.length) (hn : l.length ≤ 9223372036854775806) (v : Int) (hv : digErr l i = v) :
    Calls Tryz.prog 246 #[.pointer (some ⟨g, 0, none⟩)] w fun e w' => e = .returned (.int .i64 v) ∧ Hid (Sc w0 w' g (.slice A l.length c) (digTo l i)) := by
  subst hv
  refine (digits_any g c i A l w hs.out.1 (hr.on hs.out.2.1) hi hn).mono ?_
  rintro e w' ⟨rfl, k⟩
  exact ⟨rfl, Lib.hid (hs.out.trans k)⟩
theorem digTo_le (l : List UInt8) (i : Nat) (h : i ≤ l.length) : digTo l i ≤ l.length := by
  unfold digTo; have := run_drop_le l i; omega
theorem hasAt_lt {l : List UInt8} {i : Nat} {cs : List UInt8} (h : hasAt l i cs = true) : i < l.length := by
  by_cases k : i < l.length
  · exact k
  · rw [hasAt_false_of_ge (Nat.le_of_not_lt k)] at h; cases h
theorem skipTo_le (l : List UInt8) (i : Nat) (cs : List UInt8) (h : i ≤ l.length) : skipTo l i cs ≤ l.length := by
  unfold skipTo; split
  · rename_i k; have := hasAt_lt k; omega
  · exact h
end Go.Proofs.YtfploakafbnigaaGreatDoor
namespace Go.Proofs.YtfploakafbnigaaGreatDoor
open Go.RowKit Num
set_option linter.unusedVariables false
set_option linter.unusedSimpArgs false
/-- number's scan behind the sign. -/
def numT (b : List UInt8) (j : Nat) : Nat × Int :=
  if hasAt b j [48] then frac b (j + 1)
  else if digErr b j = 0 then frac b (digTo b j)
  else (digTo b j, digErr b j)
set_option maxHeartbeats 600000 in
theorem number_0 (g c i j : Nat) (A : Option Addr) (l : List UInt8) (w : World) (HS : Hid (Sc w w g (.slice A l.length c) i)) (HR : Hid (RB w g A l)) (hj : j ≤ l.length) (hi : i ≤ l.length) (hn : l.length ≤ 9223372036854775805)
    (HJ : Hid (skipTo l i [45] = j)) (Hz : Hid (hasAt l j [48] = true)) (Hnd : Hid (hasAt l (j + 1) [46] = false)) (Hne : Hid (hasAt l (j + 1) [101, 69] = false)) :
    Calls Tryz.prog 217 #[.pointer (some ⟨g, 0, none⟩)] w fun e w' => e = .returned (.int .i64 (numT l j).2) ∧ Sc w w' g (.slice A l.length c) (numT l j).1 := by
  have hz1 := hasAt_lt Hz.out
  go_enter Tryz.func217, Tryz.ntmps217
  go_wp2_with fail
  refine (skip_some g c i A [45] l w _ HS HR.out (by omega)).mono ?_
  rintro e w1 ⟨⟨v, rfl⟩, HW⟩
  rw [HJ.out] at HW
  go_wp2_with fail
  refine (skip_yes g c (j) A [48] l w _ HW HR.out (by omega) Hz.out).mono ?_
  clear HW
  rintro e w1 ⟨rfl, HW⟩
  go_wp2_with fail
  refine (skip_not g c (j + 1) A [46] l w _ HW HR.out (by omega) Hnd.out).mono ?_
  clear HW
  rintro e w1 ⟨rfl, HW⟩
  go_wp2_with fail
  refine (skip_not g c (j + 1) A [101, 69] l w _ HW HR.out (by omega) Hne.out).mono ?_
  clear HW
  rintro e w1 ⟨rfl, HW⟩
  go_wp2
  go_ret
  exact ⟨ret_int (by simp [numT, frac, expo, Hz.out, Hnd.out, Hne.out]), by simp only [numT, frac, expo, Hz.out, Hnd.out, Hne.out]; exact HW.out⟩
set_option maxHeartbeats 600000 in
theorem number_1 (g c i j : Nat) (A : Option Addr) (l : List UInt8) (w : World) (HS : Hid (Sc w w g (.slice A l.length c) i)) (HR : Hid (RB w g A l)) (hj : j ≤ l.length) (hi : i ≤ l.length) (hn : l.length ≤ 9223372036854775805)
    (HJ : Hid (skipTo l i [45] = j)) (Hz : Hid (hasAt l j [48] = true)) (Hnd : Hid (hasAt l (j + 1) [46] = false)) (Hye : Hid (hasAt l (j + 1) [101, 69] = true)) :
    Calls Tryz.prog 217 #[.pointer (some ⟨g, 0, none⟩)] w fun e w' => e = .returned (.int .i64 (numT l j).2) ∧ Sc w w' g (.slice A l.length c) (numT l j).1 := by
  have hz1 := hasAt_lt Hz.out
  have he1 := hasAt_lt Hye.out
  have he2 := skipTo_le l (j + 1 + 1) [43, 45] (by omega)
  go_enter Tryz.func217, Tryz.ntmps217
  go_wp2_with fail
  refine (skip_some g c i A [45] l w _ HS HR.out (by omega)).mono ?_
  rintro e w1 ⟨⟨v, rfl⟩, HW⟩
  rw [HJ.out] at HW
  go_wp2_with fail
  refine (skip_yes g c (j) A [48] l w _ HW HR.out (by omega) Hz.out).mono ?_
  clear HW
  rintro e w1 ⟨rfl, HW⟩
  go_wp2_with fail
  refine (skip_not g c (j + 1) A [46] l w _ HW HR.out (by omega) Hnd.out).mono ?_
  clear HW
  rintro e w1 ⟨rfl, HW⟩
  go_wp2_with fail
  refine (skip_yes g c (j + 1) A [101, 69] l w _ HW HR.out (by omega) Hye.out).mono ?_
  clear HW
  rintro e w1 ⟨rfl, HW⟩
  go_wp2_with fail
  refine (skip_some g c (j + 1 + 1) A [43, 45] l w _ HW HR.out (by omega)).mono ?_
  clear HW
  rintro e w1 ⟨⟨v2, rfl⟩, HW⟩
  go_wp2_with fail
  refine (digits_is g c (skipTo l (j + 1 + 1) [43, 45]) A l w _ HW HR.out (by omega) (by omega) _ (Lib.hid rfl).out).mono ?_
  clear HW
  rintro e w1 ⟨rfl, HW⟩
  go_wp2
  go_ret
  exact ⟨ret_int (by simp [numT, frac, expo, Hz.out, Hnd.out, Hye.out]), by simp only [numT, frac, expo, Hz.out, Hnd.out, Hye.out]; exact HW.out⟩
set_option maxHeartbeats 600000 in
theorem number_2 (g c i j : Nat) (A : Option Addr) (l : List UInt8) (w : World) (HS : Hid (Sc w w g (.slice A l.length c) i)) (HR : Hid (RB w g A l)) (hj : j ≤ l.length) (hi : i ≤ l.length) (hn : l.length ≤ 9223372036854775805)
    (HJ : Hid (skipTo l i [45] = j)) (Hz : Hid (hasAt l j [48] = true)) (Hyd : Hid (hasAt l (j + 1) [46] = true)) (Hd0 : Hid (digErr l (j + 1 + 1) = 0)) (Hne : Hid (hasAt l (digTo l (j + 1 + 1)) [101, 69] = false)) :
    Calls Tryz.prog 217 #[.pointer (some ⟨g, 0, none⟩)] w fun e w' => e = .returned (.int .i64 (numT l j).2) ∧ Sc w w' g (.slice A l.length c) (numT l j).1 := by
  have hz1 := hasAt_lt Hz.out
  have hy1 := hasAt_lt Hyd.out
  have hy2 := digTo_le l (j + 1 + 1) (by omega)
  go_enter Tryz.func217, Tryz.ntmps217
  go_wp2_with fail
  refine (skip_some g c i A [45] l w _ HS HR.out (by omega)).mono ?_
  rintro e w1 ⟨⟨v, rfl⟩, HW⟩
  rw [HJ.out] at HW
  go_wp2_with fail
  refine (skip_yes g c (j) A [48] l w _ HW HR.out (by omega) Hz.out).mono ?_
  clear HW
  rintro e w1 ⟨rfl, HW⟩
  go_wp2_with fail
  refine (skip_yes g c (j + 1) A [46] l w _ HW HR.out (by omega) Hyd.out).mono ?_
  clear HW
  rintro e w1 ⟨rfl, HW⟩
  go_wp2_with fail
  refine (digits_is g c (j + 1 + 1) A l w _ HW HR.out (by omega) (by omega) 0 Hd0.out).mono ?_
  clear HW
  rintro e w1 ⟨rfl, HW⟩
  go_wp2_with fail
  refine (skip_not g c (digTo l (j + 1 + 1)) A [101, 69] l w _ HW HR.out (by omega) Hne.out).mono ?_
  clear HW
  rintro e w1 ⟨rfl, HW⟩
  go_wp2
  go_ret
  exact ⟨ret_int (by simp [numT, frac, expo, Hz.out, Hyd.out, Hd0.out, Hne.out]), by simp only [numT, frac, expo, Hz.out, Hyd.out, Hd0.out, Hne.out]; exact HW.out⟩
set_option maxHeartbeats 600000 in
theorem number_3 (g c i j : Nat) (A : Option Addr) (l : List UInt8) (w : World) (HS : Hid (Sc w w g (.slice A l.length c) i)) (HR : Hid (RB w g A l)) (hj : j ≤ l.length) (hi : i ≤ l.length) (hn : l.length ≤ 9223372036854775805)
    (HJ : Hid (skipTo l i [45] = j)) (Hz : Hid (hasAt l j [48] = true)) (Hyd : Hid (hasAt l (j + 1) [46] = true)) (Hd0 : Hid (digErr l (j + 1 + 1) = 0)) (Hye : Hid (hasAt l (digTo l (j + 1 + 1)) [101, 69] = true)) :
    Calls Tryz.prog 217 #[.pointer (some ⟨g, 0, none⟩)] w fun e w' => e = .returned (.int .i64 (numT l j).2) ∧ Sc w w' g (.slice A l.length c) (numT l j).1 := by
  have hz1 := hasAt_lt Hz.out
  have hy1 := hasAt_lt Hyd.out
  have hy2 := digTo_le l (j + 1 + 1) (by omega)
  have he1 := hasAt_lt Hye.out
  have he2 := skipTo_le l (digTo l (j + 1 + 1) + 1) [43, 45] (by omega)
  go_enter Tryz.func217, Tryz.ntmps217
  go_wp2_with fail
  refine (skip_some g c i A [45] l w _ HS HR.out (by omega)).mono ?_
  rintro e w1 ⟨⟨v, rfl⟩, HW⟩
  rw [HJ.out] at HW
  go_wp2_with fail
  refine (skip_yes g c (j) A [48] l w _ HW HR.out (by omega) Hz.out).mono ?_
  clear HW
  rintro e w1 ⟨rfl, HW⟩
  go_wp2_with fail
  refine (skip_yes g c (j + 1) A [46] l w _ HW HR.out (by omega) Hyd.out).mono ?_
  clear HW
  rintro e w1 ⟨rfl, HW⟩
  go_wp2_with fail
  refine (digits_is g c (j + 1 + 1) A l w _ HW HR.out (by omega) (by omega) 0 Hd0.out).mono ?_
  clear HW
  rintro e w1 ⟨rfl, HW⟩
  go_wp2_with fail
  refine (skip_yes g c (digTo l (j + 1 + 1)) A [101, 69] l w _ HW HR.out (by omega) Hye.out).mono ?_
  clear HW
  rintro e w1 ⟨rfl, HW⟩
  go_wp2_with fail
  refine (skip_some g c (digTo l (j + 1 + 1) + 1) A [43, 45] l w _ HW HR.out (by omega)).mono ?_
  clear HW
  rintro e w1 ⟨⟨v2, rfl⟩, HW⟩
  go_wp2_with fail
  refine (digits_is g c (skipTo l (digTo l (j + 1 + 1) + 1) [43, 45]) A l w _ HW HR.out (by omega) (by omega) _ (Lib.hid rfl).out).mono ?_
  clear HW
  rintro e w1 ⟨rfl, HW⟩
  go_wp2
  go_ret
  exact ⟨ret_int (by simp [numT, frac, expo, Hz.out, Hyd.out, Hd0.out, Hye.out]), by simp only [numT, frac, expo, Hz.out, Hyd.out, Hd0.out, Hye.out]; exact HW.out⟩
set_option maxHeartbeats 600000 in
theorem number_4 (g c i j : Nat) (A : Option Addr) (l : List UInt8) (w : World) (HS : Hid (Sc w w g (.slice A l.length c) i)) (HR : Hid (RB w g A l)) (hj : j ≤ l.length) (hi : i ≤ l.length) (hn : l.length ≤ 9223372036854775805)
    (HJ : Hid (skipTo l i [45] = j)) (Hz : Hid (hasAt l j [48] = true)) (Hyd : Hid (hasAt l (j + 1) [46] = true)) (Hdn : Hid (digErr l (j + 1 + 1) ≠ 0)) :
    Calls Tryz.prog 217 #[.pointer (some ⟨g, 0, none⟩)] w fun e w' => e = .returned (.int .i64 (numT l j).2) ∧ Sc w w' g (.slice A l.length c) (numT l j).1 := by
  have hz1 := hasAt_lt Hz.out
  have hy1 := hasAt_lt Hyd.out
  have hy2 := digTo_le l (j + 1 + 1) (by omega)
  have hqdn : (digErr l (j + 1 + 1) != 0) = true := by simpa using Hdn.out
  have hq2dn : (digErr l (j + 1 + 1) == 0) = false := by simpa using Hdn.out
  go_enter Tryz.func217, Tryz.ntmps217
  go_wp2_with fail
  refine (skip_some g c i A [45] l w _ HS HR.out (by omega)).mono ?_
  rintro e w1 ⟨⟨v, rfl⟩, HW⟩
  rw [HJ.out] at HW
  go_wp2_with fail
  refine (skip_yes g c (j) A [48] l w _ HW HR.out (by omega) Hz.out).mono ?_
  clear HW
  rintro e w1 ⟨rfl, HW⟩
  go_wp2_with fail
  refine (skip_yes g c (j + 1) A [46] l w _ HW HR.out (by omega) Hyd.out).mono ?_
  clear HW
  rintro e w1 ⟨rfl, HW⟩
  go_wp2_with fail
  refine (digits_is g c (j + 1 + 1) A l w _ HW HR.out (by omega) (by omega) _ (Lib.hid rfl).out).mono ?_
  clear HW
  rintro e w1 ⟨rfl, HW⟩
  go_wp2
  go_ret
  exact ⟨ret_int (by simp [numT, frac, expo, Hz.out, Hyd.out, Hdn.out]), by simp only [numT, frac, expo, Hz.out, Hyd.out, Hdn.out]; exact HW.out⟩
set_option maxHeartbeats 600000 in
theorem number_5 (g c i j : Nat) (A : Option Addr) (l : List UInt8) (w : World) (HS : Hid (Sc w w g (.slice A l.length c) i)) (HR : Hid (RB w g A l)) (hj : j ≤ l.length) (hi : i ≤ l.length) (hn : l.length ≤ 9223372036854775805)
    (HJ : Hid (skipTo l i [45] = j)) (Hnz : Hid (hasAt l j [48] = false)) (He0 : Hid (digErr l j = 0)) (Hnd : Hid (hasAt l (digTo l j) [46] = false)) (Hne : Hid (hasAt l (digTo l j) [101, 69] = false)) :
    Calls Tryz.prog 217 #[.pointer (some ⟨g, 0, none⟩)] w fun e w' => e = .returned (.int .i64 (numT l j).2) ∧ Sc w w' g (.slice A l.length c) (numT l j).1 := by
  have hj2 := digTo_le l j hj
  go_enter Tryz.func217, Tryz.ntmps217
  go_wp2_with fail
  refine (skip_some g c i A [45] l w _ HS HR.out (by omega)).mono ?_
  rintro e w1 ⟨⟨v, rfl⟩, HW⟩
  rw [HJ.out] at HW
  go_wp2_with fail
  refine (skip_not g c (j) A [48] l w _ HW HR.out (by omega) Hnz.out).mono ?_
  clear HW
  rintro e w1 ⟨rfl, HW⟩
  go_wp2_with fail
  refine (digits_is g c (j) A l w _ HW HR.out (by omega) (by omega) 0 He0.out).mono ?_
  clear HW
  rintro e w1 ⟨rfl, HW⟩
  go_wp2_with fail
  refine (skip_not g c (digTo l j) A [46] l w _ HW HR.out (by omega) Hnd.out).mono ?_
  clear HW
  rintro e w1 ⟨rfl, HW⟩
  go_wp2_with fail
  refine (skip_not g c (digTo l j) A [101, 69] l w _ HW HR.out (by omega) Hne.out).mono ?_
  clear HW
  rintro e w1 ⟨rfl, HW⟩
  go_wp2
  go_ret
  exact ⟨ret_int (by simp [numT, frac, expo, Hnz.out, He0.out, Hnd.out, Hne.out]), by simp only [numT, frac, expo, Hnz.out, He0.out, Hnd.out, Hne.out]; exact HW.out⟩
set_option maxHeartbeats 600000 in
theorem number_6 (g c i j : Nat) (A : Option Addr) (l : List UInt8) (w : World) (HS : Hid (Sc w w g (.slice A l.length c) i)) (HR : Hid (RB w g A l)) (hj : j ≤ l.length) (hi : i ≤ l.length) (hn : l.length ≤ 9223372036854775805)
    (HJ : Hid (skipTo l i [45] = j)) (Hnz : Hid (hasAt l j [48] = false)) (He0 : Hid (digErr l j = 0)) (Hnd : Hid (hasAt l (digTo l j) [46] = false)) (Hye : Hid (hasAt l (digTo l j) [101, 69] = true)) :
    Calls Tryz.prog 217 #[.pointer (some ⟨g, 0, none⟩)] w fun e w' => e = .returned (.int .i64 (numT l j).2) ∧ Sc w w' g (.slice A l.length c) (numT l j).1 := by
  have hj2 := digTo_le l j hj
  have he1 := hasAt_lt Hye.out
  have he2 := skipTo_le l (digTo l j + 1) [43, 45] (by omega)
  go_enter Tryz.func217, Tryz.ntmps217
  go_wp2_with fail
  refine (skip_some g c i A [45] l w _ HS HR.out (by omega)).mono ?_
  rintro e w1 ⟨⟨v, rfl⟩, HW⟩
  rw [HJ.out] at HW
  go_wp2_with fail
  refine (skip_not g c (j) A [48] l w _ HW HR.out (by omega) Hnz.out).mono ?_
  clear HW
  rintro e w1 ⟨rfl, HW⟩
  go_wp2_with fail
  refine (digits_is g c (j) A l w _ HW HR.out (by omega) (by omega) 0 He0.out).mono ?_
  clear HW
  rintro e w1 ⟨rfl, HW⟩
  go_wp2_with fail
  refine (skip_not g c (digTo l j) A [46] l w _ HW HR.out (by omega) Hnd.out).mono ?_
  clear HW
  rintro e w1 ⟨rfl, HW⟩
  go_wp2_with fail
  refine (skip_yes g c (digTo l j) A [101, 69] l w _ HW HR.out (by omega) Hye.out).mono ?_
  clear HW
  rintro e w1 ⟨rfl, HW⟩
  go_wp2_with fail
  refine (skip_some g c (digTo l j + 1) A [43, 45] l w _ HW HR.out (by omega)).mono ?_
  clear HW
  rintro e w1 ⟨⟨v2, rfl⟩, HW⟩
  go_wp2_with fail
  refine (digits_is g c (skipTo l (digTo l j + 1) [43, 45]) A l w _ HW HR.out (by omega) (by omega) _ (Lib.hid rfl).out).mono ?_
  clear HW
  rintro e w1 ⟨rfl, HW⟩
  go_wp2
  go_ret
  exact ⟨ret_int (by simp [numT, frac, expo, Hnz.out, He0.out, Hnd.out, Hye.out]), by simp only [numT, frac, expo, Hnz.out, He0.out, Hnd.out, Hye.out]; exact HW.out⟩
set_option maxHeartbeats 600000 in
theorem number_7 (g c i j : Nat) (A : Option Addr) (l : List UInt8) (w : World) (HS : Hid (Sc w w g (.slice A l.length c) i)) (HR : Hid (RB w g A l)) (hj : j ≤ l.length) (hi : i ≤ l.length) (hn : l.length ≤ 9223372036854775805)
    (HJ : Hid (skipTo l i [45] = j)) (Hnz : Hid (hasAt l j [48] = false)) (He0 : Hid (digErr l j = 0)) (Hyd : Hid (hasAt l (digTo l j) [46] = true)) (Hd0 : Hid (digErr l (digTo l j + 1) = 0)) (Hne : Hid (hasAt l (digTo l (digTo l j + 1)) [101, 69] = false)) :
    Calls Tryz.prog 217 #[.pointer (some ⟨g, 0, none⟩)] w fun e w' => e = .returned (.int .i64 (numT l j).2) ∧ Sc w w' g (.slice A l.length c) (numT l j).1 := by
  have hj2 := digTo_le l j hj
  have hy1 := hasAt_lt Hyd.out
  have hy2 := digTo_le l (digTo l j + 1) (by omega)
  go_enter Tryz.func217, Tryz.ntmps217
  go_wp2_with fail
  refine (skip_some g c i A [45] l w _ HS HR.out (by omega)).mono ?_
  rintro e w1 ⟨⟨v, rfl⟩, HW⟩
  rw [HJ.out] at HW
  go_wp2_with fail
  refine (skip_not g c (j) A [48] l w _ HW HR.out (by omega) Hnz.out).mono ?_
  clear HW
  rintro e w1 ⟨rfl, HW⟩
  go_wp2_with fail
  refine (digits_is g c (j) A l w _ HW HR.out (by omega) (by omega) 0 He0.out).mono ?_
  clear HW
  rintro e w1 ⟨rfl, HW⟩
  go_wp2_with fail
  refine (skip_yes g c (digTo l j) A [46] l w _ HW HR.out (by omega) Hyd.out).mono ?_
  clear HW
  rintro e w1 ⟨rfl, HW⟩
  go_wp2_with fail
  refine (digits_is g c (digTo l j + 1) A l w _ HW HR.out (by omega) (by omega) 0 Hd0.out).mono ?_
  clear HW
  rintro e w1 ⟨rfl, HW⟩
  go_wp2_with fail
  refine (skip_not g c (digTo l (digTo l j + 1)) A [101, 69] l w _ HW HR.out (by omega) Hne.out).mono ?_
  clear HW
  rintro e w1 ⟨rfl, HW⟩
  go_wp2
  go_ret
  exact ⟨ret_int (by simp [numT, frac, expo, Hnz.out, He0.out, Hyd.out, Hd0.out, Hne.out]), by simp only [numT, frac, expo, Hnz.out, He0.out, Hyd.out, Hd0.out, Hne.out]; exact HW.out⟩
set_option maxHeartbeats 600000 in
theorem number_8 (g c i j : Nat) (A : Option Addr) (l : List UInt8) (w : World) (HS : Hid (Sc w w g (.slice A l.length c) i)) (HR : Hid (RB w g A l)) (hj : j ≤ l.length) (hi : i ≤ l.length) (hn : l.length ≤ 9223372036854775805)
    (HJ : Hid (skipTo l i [45] = j)) (Hnz : Hid (hasAt l j [48] = false)) (He0 : Hid (digErr l j = 0)) (Hyd : Hid (hasAt l (digTo l j) [46] = true)) (Hd0 : Hid (digErr l (digTo l j + 1) = 0)) (Hye : Hid (hasAt l (digTo l (digTo l j + 1)) [101, 69] = true)) :
    Calls Tryz.prog 217 #[.pointer (some ⟨g, 0, none⟩)] w fun e w' => e = .returned (.int .i64 (numT l j).2) ∧ Sc w w' g (.slice A l.length c) (numT l j).1 := by
  have hj2 := digTo_le l j hj
  have hy1 := hasAt_lt Hyd.out
  have hy2 := digTo_le l (digTo l j + 1) (by omega)
  have he1 := hasAt_lt Hye.out
  have he2 := skipTo_le l (digTo l (digTo l j + 1) + 1) [43, 45] (by omega)
  go_enter Tryz.func217, Tryz.ntmps217
  go_wp2_with fail
  refine (skip_some g c i A [45] l w _ HS HR.out (by omega)).mono ?_
  rintro e w1 ⟨⟨v, rfl⟩, HW⟩
  rw [HJ.out] at HW
  go_wp2_with fail
  refine (skip_not g c (j) A [48] l w _ HW HR.out (by omega) Hnz.out).mono ?_
  clear HW
  rintro e w1 ⟨rfl, HW⟩
  go_wp2_with fail
  refine (digits_is g c (j) A l w _ HW HR.out (by omega) (by omega) 0 He0.out).mono ?_
  clear HW
  rintro e w1 ⟨rfl, HW⟩
  go_wp2_with fail
  refine (skip_yes g c (digTo l j) A [46] l w _ HW HR.out (by omega) Hyd.out).mono ?_
  clear HW
  rintro e w1 ⟨rfl, HW⟩
  go_wp2_with fail
  refine (digits_is g c (digTo l j + 1) A l w _ HW HR.out (by omega) (by omega) 0 Hd0.out).mono ?_
  clear HW
  rintro e w1 ⟨rfl, HW⟩
  go_wp2_with fail
  refine (skip_yes g c (digTo l (digTo l j + 1)) A [101, 69] l w _ HW HR.out (by omega) Hye.out).mono ?_
  clear HW
  rintro e w1 ⟨rfl, HW⟩
  go_wp2_with fail
  refine (skip_some g c (digTo l (digTo l j + 1) + 1) A [43, 45] l w _ HW HR.out (by omega)).mono ?_
  clear HW
  rintro e w1 ⟨⟨v2, rfl⟩, HW⟩
  go_wp2_with fail
  refine (digits_is g c (skipTo l (digTo l (digTo l j + 1) + 1) [43, 45]) A l w _ HW HR.out (by omega) (by omega) _ (Lib.hid rfl).out).mono ?_
  clear HW
  rintro e w1 ⟨rfl, HW⟩
  go_wp2
  go_ret
  exact ⟨ret_int (by simp [numT, frac, expo, Hnz.out, He0.out, Hyd.out, Hd0.out, Hye.out]), by simp only [numT, frac, expo, Hnz.out, He0.out, Hyd.out, Hd0.out, Hye.out]; exact HW.out⟩
set_option maxHeartbeats 600000 in
theorem number_9 (g c i j : Nat) (A : Option Addr) (l : List UInt8) (w : World) (HS : Hid (Sc w w g (.slice A l.length c) i)) (HR : Hid (RB w g A l)) (hj : j ≤ l.length) (hi : i ≤ l.length) (hn : l.length ≤ 9223372036854775805)
    (HJ : Hid (skipTo l i [45] = j)) (Hnz : Hid (hasAt l j [48] = false)) (He0 : Hid (digErr l j = 0)) (Hyd : Hid (hasAt l (digTo l j) [46] = true)) (Hdn : Hid (digErr l (digTo l j + 1) ≠ 0)) :
    Calls Tryz.prog 217 #[.pointer (some ⟨g, 0, none⟩)] w fun e w' => e = .returned (.int .i64 (numT l j).2) ∧ Sc w w' g (.slice A l.length c) (numT l j).1 := by
  have hj2 := digTo_le l j hj
  have hy1 := hasAt_lt Hyd.out
  have hy2 := digTo_le l (digTo l j + 1) (by omega)
  have hqdn : (digErr l (digTo l j + 1) != 0) = true := by simpa using Hdn.out
  have hq2dn : (digErr l (digTo l j + 1) == 0) = false := by simpa using Hdn.out
  go_enter Tryz.func217, Tryz.ntmps217
  go_wp2_with fail
  refine (skip_some g c i A [45] l w _ HS HR.out (by omega)).mono ?_
  rintro e w1 ⟨⟨v, rfl⟩, HW⟩
  rw [HJ.out] at HW
  go_wp2_with fail
  refine (skip_not g c (j) A [48] l w _ HW HR.out (by omega) Hnz.out).mono ?_
  clear HW
  rintro e w1 ⟨rfl, HW⟩
  go_wp2_with fail
  refine (digits_is g c (j) A l w _ HW HR.out (by omega) (by omega) 0 He0.out).mono ?_
  clear HW
  rintro e w1 ⟨rfl, HW⟩
  go_wp2_with fail
  refine (skip_yes g c (digTo l j) A [46] l w _ HW HR.out (by omega) Hyd.out).mono ?_
  clear HW
  rintro e w1 ⟨rfl, HW⟩
  go_wp2_with fail
  refine (digits_is g c (digTo l j + 1) A l w _ HW HR.out (by omega) (by omega) _ (Lib.hid rfl).out).mono ?_
  clear HW
  rintro e w1 ⟨rfl, HW⟩
  go_wp2
  go_ret
  exact ⟨ret_int (by simp [numT, frac, expo, Hnz.out, He0.out, Hyd.out, Hdn.out]), by simp only [numT, frac, expo, Hnz.out, He0.out, Hyd.out, Hdn.out]; exact HW.out⟩
set_option maxHeartbeats 600000 in
theorem number_10 (g c i j : Nat) (A : Option Addr) (l : List UInt8) (w : World) (HS : Hid (Sc w w g (.slice A l.length c) i)) (HR : Hid (RB w g A l)) (hj : j ≤ l.length) (hi : i ≤ l.length) (hn : l.length ≤ 9223372036854775805)
    (HJ : Hid (skipTo l i [45] = j)) (Hnz : Hid (hasAt l j [48] = false)) (Hen : Hid (digErr l j ≠ 0)) :
    Calls Tryz.prog 217 #[.pointer (some ⟨g, 0, none⟩)] w fun e w' => e = .returned (.int .i64 (numT l j).2) ∧ Sc w w' g (.slice A l.length c) (numT l j).1 := by
  have hj2 := digTo_le l j hj
  have hqen : (digErr l j != 0) = true := by simpa using Hen.out
  have hq2en : (digErr l j == 0) = false := by simpa using Hen.out
  go_enter Tryz.func217, Tryz.ntmps217
  go_wp2_with fail
  refine (skip_some g c i A [45] l w _ HS HR.out (by omega)).mono ?_
  rintro e w1 ⟨⟨v, rfl⟩, HW⟩
  rw [HJ.out] at HW
  go_wp2_with fail
  refine (skip_not g c (j) A [48] l w _ HW HR.out (by omega) Hnz.out).mono ?_
  clear HW
  rintro e w1 ⟨rfl, HW⟩
  go_wp2_with fail
  refine (digits_is g c (j) A l w _ HW HR.out (by omega) (by omega) _ (Lib.hid rfl).out).mono ?_
  clear HW
  rintro e w1 ⟨rfl, HW⟩
  go_wp2
  go_ret
  exact ⟨ret_int (by simp [numT, frac, expo, Hnz.out, Hen.out]), by simp only [numT, frac, expo, Hnz.out, Hen.out]; exact HW.out⟩
/-- number: the scan of a whole number. -/
theorem number_any (g c i : Nat) (A : Option Addr) (l : List UInt8) (w : World) (hsc : SC w g (.slice A l.length c) i) (hr : RB w g A l) (hi : i ≤ l.length) (hn : l.length ≤ 9223372036854775805) :
    Calls Tryz.prog 217 #[.pointer (some ⟨g, 0, none⟩)] w fun e w' => e = .returned (.int .i64 (numF l i).2) ∧
      Sc w w' g (.slice A l.length c) (numF l i).1 := by
  have HS := Lib.hid (Sc.refl hsc)
  have HR := Lib.hid hr
  have hj := skipTo_le l i [45] hi
  have e : numF l i = numT l (skipTo l i [45]) := rfl
  rw [e]
  generalize hjj : skipTo l i [45] = j at *
  have HJ := Lib.hid hjj
  rcases Bool.eq_false_or_eq_true (hasAt l j [48]) with z | nz
  · skip
    rcases Bool.eq_false_or_eq_true (hasAt l (j + 1) [46]) with yd | nd
    · by_cases d0 : digErr l (j + 1 + 1) = 0
      · rcases Bool.eq_false_or_eq_true (hasAt l (digTo l (j + 1 + 1)) [101, 69]) with ye | ne
        · exact number_3 g c i j A l w HS HR hj hi hn HJ (Lib.hid z) (Lib.hid yd) (Lib.hid d0) (Lib.hid ye)
        · exact number_2 g c i j A l w HS HR hj hi hn HJ (Lib.hid z) (Lib.hid yd) (Lib.hid d0) (Lib.hid ne)
      · exact number_4 g c i j A l w HS HR hj hi hn HJ (Lib.hid z) (Lib.hid yd) (Lib.hid d0)
    · rcases Bool.eq_false_or_eq_true (hasAt l (j + 1) [101, 69]) with ye | ne
      · exact number_1 g c i j A l w HS HR hj hi hn HJ (Lib.hid z) (Lib.hid nd) (Lib.hid ye)
      · exact number_0 g c i j A l w HS HR hj hi hn HJ (Lib.hid z) (Lib.hid nd) (Lib.hid ne)
  · by_cases e0 : digErr l j = 0
    · skip
      rcases Bool.eq_false_or_eq_true (hasAt l (digTo l j) [46]) with yd | nd
      · by_cases d0 : digErr l (digTo l j + 1) = 0
        · rcases Bool.eq_false_or_eq_true (hasAt l (digTo l (digTo l j + 1)) [101, 69]) with ye | ne
          · exact number_8 g c i j A l w HS HR hj hi hn HJ (Lib.hid nz) (Lib.hid e0) (Lib.hid yd) (Lib.hid d0) (Lib.hid ye)
          · exact number_7 g c i j A l w HS HR hj hi hn HJ (Lib.hid nz) (Lib.hid e0) (Lib.hid yd) (Lib.hid d0) (Lib.hid ne)
        · exact number_9 g c i j A l w HS HR hj hi hn HJ (Lib.hid nz) (Lib.hid e0) (Lib.hid yd) (Lib.hid d0)
      · rcases Bool.eq_false_or_eq_true (hasAt l (digTo l j) [101, 69]) with ye | ne
        · exact number_6 g c i j A l w HS HR hj hi hn HJ (Lib.hid nz) (Lib.hid e0) (Lib.hid nd) (Lib.hid ye)
        · exact number_5 g c i j A l w HS HR hj hi hn HJ (Lib.hid nz) (Lib.hid e0) (Lib.hid nd) (Lib.hid ne)
    · exact number_10 g c i j A l w HS HR hj hi hn HJ (Lib.hid nz) (Lib.hid e0)
end Go.Proofs.YtfploakafbnigaaGreatDoor
namespace Go.Proofs.YtfploakafbnigaaGreatDoor
open Go.RowKit Num
set_option linter.unusedVariables false
set_option linter.unusedSimpArgs false
theorem below_of_Sc {w w' : World} {o : Obj} {sv : Value} {i : Nat} (h : Sc (w.alloc o) w' w.heap.size sv i) : Below w.heap.size w w' :=
  ((Below.refl _ w).alloc (Nat.le_refl _) o).trans h.2.1
/-- number.Check. -/
theorem Check_any (c : Nat) (A : Option Addr) (l : List UInt8) (at' : Int) (w : World) (hr : RB w w.heap.size A l) (hn : l.length ≤ 9223372036854775805) :
    Calls Tryz.prog 188 #[.slice A l.length c, .int .i64 at'] w fun e w' => e = .returned (.tuple #[.int .i64 (check l at').1, .int .i64 (check l at').2]) ∧ Below w.heap.size w w' := by
  by_cases h0 : at' < 0
  · have hck : check l at' = (0, 9) := by unfold check; rw [if_pos (.inl h0)]
    rw [hck]
    clear hck
    go_enter Tryz.func188, Tryz.ntmps188
    go_wp2
    go_ret2
    exact ⟨rfl, Below.refl _ _⟩
  · obtain ⟨i, rfl⟩ := Int.eq_ofNat_of_zero_le (show 0 ≤ at' from by omega)
    by_cases h1 : (l.length : Int) < i
    · have hck : check l i = (0, 9) := by unfold check; rw [if_pos (.inr h1)]
      rw [hck]
      clear hck
      have hd : decide (l.length < i) = true := by simp; omega
      go_enter Tryz.func188, Tryz.ntmps188
      go_wp2
      go_ret2
      exact ⟨rfl, Below.refl _ _⟩
    · have hck : check l i = checkN l i := by unfold check; rw [if_neg (by omega)]; rfl
      rw [hck]
      clear hck
      have hd : decide (l.length < i) = false := by simp; omega
      have HR := Lib.hid hr
      clear hr
      have HN : Hid (∀ W, SC W w.heap.size (.slice A l.length c) i → RB W w.heap.size A l → Calls Tryz.prog 217 #[.pointer (some ⟨w.heap.size, 0, none⟩)] W fun e w' => e = .returned (.int .i64 (numF l i).2) ∧
          Sc W w' w.heap.size (.slice A l.length c) (numF l i).1) := Lib.hid fun W hs hb => number_any w.heap.size c i A l W hs hb (by omega) hn
      have HK : Hid (checkN l i = if (numF l i).2 = 0 then ((numF l i).1, 0) else (0, (numF l i).2)) := Lib.hid rfl
      generalize numF l i = F at *
      generalize checkN l i = K at *
      obtain ⟨p, e⟩ := F
      by_cases he : e = 0
      · subst he
        obtain rfl : K = (p, 0) := HK.out
        go_enter Tryz.func188, Tryz.ntmps188
        go_wp2_with fail
        refine (HN.out _ ?_ ?_).mono ?_
        · exact heap_alloc_new w _
        · exact (HR.out).on (((Below.refl _ w).alloc (Nat.le_refl _) _))
        rintro e w' ⟨rfl, hw⟩
        have k1 := hw.1.c1
        have HW := Lib.hid hw
        clear hw
        go_wp2
        go_ret2
        exact ⟨rfl, below_of_Sc HW.out⟩
      · have hq : (e != 0) = true := by simpa using he
        have hq2 : (e == 0) = false := by simpa using he
        obtain rfl : K = (0, e) := by rw [HK.out, if_neg he]
        clear he
        go_enter Tryz.func188, Tryz.ntmps188
        go_wp2_with fail
        refine (HN.out _ ?_ ?_).mono ?_
        · exact heap_alloc_new w _
        · exact (HR.out).on (((Below.refl _ w).alloc (Nat.le_refl _) _))
        rintro e w' ⟨rfl, hw⟩
        have HW := Lib.hid hw
        clear hw
        go_wp2
        go_ret2
        exact ⟨rfl, below_of_Sc HW.out⟩
end Go.Proofs.YtfploakafbnigaaGreatDoor
namespace Go.Proofs.YtfploakafbnigaaGreatDoor
open Go.RowKit Num
set_option linter.unusedVariables false
set_option linter.unusedSimpArgs false
def bs (l : List UInt8) : ByteArray := ⟨l.toArray⟩
theorem bs_list (l : List UInt8) : (bs l).data.toList = l := rfl
theorem bs_size (l : List UInt8) : (bs l).size = l.length := by simp [bs, ByteArray.size]
theorem list_len (s : ByteArray) : s.data.toList.length = s.size := by rw [Array.length_toList]; rfl
/-- The package-level variable of strings.Index holds some int. -/
def ML (w : World) : Prop := ∃ m, w.cell? ⟨1, 0, none⟩ = some (.int .i64 m)
theorem ML.lt {w : World} (h : ML w) : 1 < w.heap.size := by
  obtain ⟨m, h⟩ := h
  exact World.block_lt_of_cell? w _ h
theorem ML.on {w w' : World} (h : ML w) (hb : Below w.heap.size w w') : ML w' := by
  have hl := h.lt
  obtain ⟨m, h⟩ := h
  exact ⟨m, (hb.cell (p := ⟨1, 0, none⟩) hl).trans h⟩
/-! ### the plain facts -/
theorem isPrefix_one (x : UInt8) (l : List UInt8) : [x].isPrefixOf l = decide (l.head? = some x) := by
  cases l with
  | nil => rfl
  | cons y r =>
    simp only [List.isPrefixOf, List.head?_cons, Option.some.injEq, Bool.and_true]
    by_cases h : x = y
    · subst h; simp
    · have h' : ¬ y = x := fun e => h e.symm
      simp [h, h']
theorem trimPrefix_one (l : List UInt8) : Lib.trimPrefix l [45] = plainOf l := by
  unfold Lib.trimPrefix Lib.hasPrefix plainOf
  rw [isPrefix_one]
  by_cases h : l.head? = some 45 <;> simp [h]
theorem hasPrefix_one (l : List UInt8) : Lib.hasPrefix l [45] = decide (l.head? = some 45) := isPrefix_one 45 l
theorem isE_contains (c : UInt8) : [101, 69].contains c = isE c := by
  unfold isE
  simp only [List.contains_cons, List.contains_nil, Bool.or_false]
theorem step_ix (t n : Nat) : (if ((if t < n then (t : Int) else -1) == -1) = true then -1 else (if t < n then (t : Int) else -1) + 1) = if t + 1 < n + 1 then ((t + 1 : Nat) : Int) else -1 := by
  by_cases h : t < n
  · have e : ((t : Int) == -1) = false := by rw [beq_eq_false_iff_ne]; omega
    simp [h, e]
  · simp [h]
theorem indexAny_e (l : List UInt8) : Lib.indexAny l [101, 69] = if (mantOf l).length < l.length then ((mantOf l).length : Int) else -1 := by
  induction l with
  | nil => rfl
  | cons c r ih =>
    unfold Lib.indexAny
    rw [isE_contains]
    unfold mantOf at ih ⊢
    rw [List.takeWhile_cons]
    cases h : isE c
    · simp only [Bool.false_eq_true, if_false, Bool.not_false, if_true, List.length_cons]
      rw [ih]
      exact step_ix _ _
    · simp
theorem takeWhile_length_eq {α : Type} (p : α → Bool) (l : List α) (h : ¬ (l.takeWhile p).length < l.length) : l.takeWhile p = l ∧ l.dropWhile p = [] := by
  induction l with
  | nil => exact ⟨rfl, rfl⟩
  | cons x r ih =>
    rw [List.takeWhile_cons] at h ⊢
    rw [List.dropWhile_cons]
    cases hx : p x
    · rw [hx] at h; simp at h
    · rw [hx] at h
      simp only [if_true, List.length_cons] at h ⊢
      have := ih (by omega)
      exact ⟨by rw [this.1], this.2⟩
theorem mant_whole {l : List UInt8} (h : ¬ (mantOf l).length < l.length) : mantOf l = l ∧ powOf l = [] := by
  have := takeWhile_length_eq (fun c => !isE c) l h
  exact ⟨this.1, by unfold powOf; rw [this.2]; rfl⟩
theorem take_takeWhile {α : Type} (p : α → Bool) (l : List α) : l.take (l.takeWhile p).length = l.takeWhile p := by
  induction l with
  | nil => rfl
  | cons x r ih => rw [List.takeWhile_cons]; cases hx : p x <;> simp [ih]
theorem drop_takeWhile {α : Type} (p : α → Bool) (l : List α) : l.drop (l.takeWhile p).length = l.dropWhile p := by
  induction l with
  | nil => rfl
  | cons x r ih => rw [List.takeWhile_cons, List.dropWhile_cons]; cases hx : p x <;> simp [ih]
theorem mant_take (l : List UInt8) : l.take (mantOf l).length = mantOf l := take_takeWhile _ l
theorem pow_drop (l : List UInt8) : l.drop ((mantOf l).length + 1) = powOf l := by
  unfold powOf mantOf
  rw [← drop_takeWhile, List.drop_drop]
theorem mant_le (l : List UInt8) : (mantOf l).length ≤ l.length := (List.takeWhile_sublist _).length_le
theorem index_dot (l : List UInt8) : Lib.index l [46] = if (aheadOf l).length < l.length then ((aheadOf l).length : Int) else -1 := by
  induction l with
  | nil => rfl
  | cons c r ih =>
    unfold Lib.index
    rw [isPrefix_one]
    unfold aheadOf at ih ⊢
    rw [List.takeWhile_cons]
    simp only [List.head?_cons, Option.some.injEq]
    by_cases h : c = 46
    · subst h; simp
    · have h' : (c == 46) = false := by simpa using h
      simp only [h, decide_false, Bool.false_eq_true, if_false, h', Bool.not_false, if_true, List.length_cons]
      rw [ih]
      exact step_ix _ _
theorem cut_dot (l : List UInt8) : (Lib.cut l [46]).1 = aheadOf l ∧ (Lib.cut l [46]).2.1 = behindOf l := by
  unfold Lib.cut
  rw [index_dot]
  by_cases h : (aheadOf l).length < l.length
  · rw [if_pos h, if_pos (by omega)]
    refine ⟨?_, ?_⟩
    · exact take_takeWhile _ l
    · show l.drop ((aheadOf l).length + 1) = behindOf l
      unfold behindOf aheadOf
      rw [← drop_takeWhile, List.drop_drop]
  · rw [if_neg h, if_neg (by decide)]
    have := takeWhile_length_eq (fun c => !(c == 46)) l h
    exact ⟨this.1.symm, by unfold behindOf; rw [this.2]; rfl⟩
/-! ### the contracts -/
theorem CutPrefix_minus (s : ByteArray) (l : List UInt8) (h : s.data.toList = l) (w : World) :
    Calls Tryz.prog 189 #[.string s, .string ⟨#[45]⟩] w fun e w' => e = .returned (.tuple #[.string (bs (plainOf l)), .bool (decide (l.head? = some 45))]) ∧ w = w' := by
  subst h
  refine (Tryz.strings_CutPrefix s ⟨#[45]⟩ w).mono ?_
  rintro e w' ⟨rfl, rfl⟩
  exact ⟨by rw [show (ByteArray.mk #[45]).data.toList = [45] from rfl, trimPrefix_one, hasPrefix_one]; rfl, rfl⟩
theorem HasPrefix_minus (s : ByteArray) (l : List UInt8) (h : s.data.toList = l) (w : World) :
    Calls Tryz.prog 194 #[.string s, .string ⟨#[45]⟩] w fun e w' => e = .returned (.bool (decide (l.head? = some 45))) ∧ w = w' := by
  subst h
  refine (Tryz.strings_HasPrefix s ⟨#[45]⟩ w).mono ?_
  rintro e w' ⟨rfl, rfl⟩
  exact ⟨by rw [show (ByteArray.mk #[45]).data.toList = [45] from rfl, hasPrefix_one], rfl⟩
theorem IndexAny_e (s : ByteArray) (l : List UInt8) (h : s.data.toList = l) (w : World) (hl : l.length < 4294967281) (ha : ∀ x ∈ l, x.toNat < 128) :
    Calls Tryz.prog 190 #[.string s, .string ⟨#[101, 69]⟩] w fun e w' => e = .returned (.int .i64 (if (mantOf l).length < l.length then ((mantOf l).length : Int) else -1)) ∧ Below w.heap.size w w' := by
  subst h
  refine (Tryz.strings_IndexAny_laid s ⟨#[101, 69]⟩ w (by rw [← list_len]; exact hl) (by decide) (fun j b hb => ha b (List.mem_of_getElem? hb)) (ascii_of_all (by decide))).mono ?_
  rintro e w' ⟨rfl, hb⟩
  exact ⟨by rw [show (ByteArray.mk #[101, 69]).data.toList = [101, 69] from rfl, indexAny_e], hb⟩
theorem Cut_dot (s : ByteArray) (l : List UInt8) (h : s.data.toList = l) (w : World) (hl : l.length < 4294967281) (hm : ML w) :
    Calls Tryz.prog 191 #[.string s, .string ⟨#[46]⟩] w fun e w' => (∃ v, e = .returned (.tuple #[.string (bs (aheadOf l)), .string (bs (behindOf l)), .bool v])) ∧ ∃ n, w' = w.drewN n := by
  subst h
  obtain ⟨m, hm⟩ := hm
  refine (Tryz.strings_Cut s ⟨#[46]⟩ m w (by rw [← list_len]; exact hl) hm).mono ?_
  rintro e w' ⟨rfl, hb⟩
  refine ⟨⟨(Lib.cut s.data.toList [46]).2.2, ?_⟩, hb⟩
  rw [show (ByteArray.mk #[46]).data.toList = [46] from rfl, (cut_dot _).1, (cut_dot _).2]; rfl
theorem TrimLeft_nought (s : ByteArray) (l : List UInt8) (h : s.data.toList = l) (w : World) :
    Calls Tryz.prog 192 #[.string s, .string ⟨#[48]⟩] w fun e w' => e = .returned (.string (bs (trimL l [48]))) ∧ w = w' := by
  subst h
  refine (Tryz.strings_TrimLeft_one s 48 (by decide) w).mono ?_
  rintro e w' ⟨rfl, rfl⟩
  refine ⟨?_, rfl⟩
  rw [← Lib.trimLeftS_one]; rfl
theorem TrimLeft_sign (s : ByteArray) (l : List UInt8) (h : s.data.toList = l) (w : World) :
    Calls Tryz.prog 192 #[.string s, .string ⟨#[43, 45]⟩] w fun e w' => e = .returned (.string (bs (trimL l [43, 45]))) ∧ Below w.heap.size w w' := by
  subst h
  refine (Any.strings_TrimLeft_laid Tryz.lays161 (by kernel_rfl) s ⟨#[43, 45]⟩ w (by decide) (ascii_of_all (by decide))).mono ?_
  rintro e w' ⟨rfl, hb⟩
  exact ⟨rfl, hb⟩
theorem TrimRight_nought (s : ByteArray) (l : List UInt8) (h : s.data.toList = l) (w : World) (hl : l.length < 4294967281) :
    Calls Tryz.prog 193 #[.string s, .string ⟨#[48]⟩] w fun e w' => e = .returned (.string (bs (trimR l [48]))) ∧ w = w' := by
  subst h
  refine (Tryz.strings_TrimRight_one s 48 (by decide) w (by rw [← list_len]; omega)).mono ?_
  rintro e w' ⟨rfl, rfl⟩
  refine ⟨?_, rfl⟩
  rw [← Lib.trimRightS_one]; rfl
theorem bytes_below {B : Nat} {w W : World} (h : Below B w W) (hB : B ≤ W.heap.size) (e : TypeId) (s : ByteArray) : Below B w (Lib.bytesWorld W e s) :=
  h.trans ⟨rfl, rfl, rfl, by rw [Lib.bytesWorld_size]; omega, fun i hi => Lib.bytesWorld_at_old W e s i (by omega)⟩
theorem isD_range {c : UInt8} (h : isD c = true) : 48 ≤ c.toNat ∧ c.toNat ≤ 57 := by
  unfold isD at h
  simp only [Bool.and_eq_true, decide_eq_true_eq, UInt8.le_iff_toNat_le] at h
  exact h
theorem decFrom_eq (l : List UInt8) (acc : Nat) (h : ∀ x ∈ l, isD x = true) : Lib.decFrom acc l = some (l.foldl (fun n c => n * 10 + (c.toNat - 48)) acc) := by
  induction l generalizing acc with
  | nil => rfl
  | cons c r ih =>
    unfold Lib.decFrom Lib.digitVal
    rw [if_pos (isD_range (h c (List.mem_cons_self ..)))]
    exact ih _ (fun x hx => h x (List.mem_cons_of_mem _ hx))
theorem atoi_digits (l : List UInt8) (h : ∀ x ∈ l, isD x = true) (hne : l ≠ []) : Lib.atoi l = some (decV l : Int) := by
  cases l with
  | nil => exact absurd rfl hne
  | cons c r =>
    have hc := isD_range (h c (List.mem_cons_self ..))
    have h1 : (c == 45) = false := by
      rw [beq_eq_false_iff_ne]; intro e; subst e; revert hc; decide
    have h2 : (c == 43) = false := by
      rw [beq_eq_false_iff_ne]; intro e; subst e; revert hc; decide
    unfold Lib.atoi
    simp only [h1, h2, Bool.false_eq_true, if_false]
    unfold Lib.decNat
    simp only [List.isEmpty_cons, Bool.false_eq_true, if_false]
    rw [decFrom_eq _ _ h]
    rfl
theorem dec_lt (l : List UInt8) (acc : Nat) (h : ∀ x ∈ l, isD x = true) : l.foldl (fun n c => n * 10 + (c.toNat - 48)) acc < (acc + 1) * 10 ^ l.length := by
  induction l generalizing acc with
  | nil => simp
  | cons c r ih =>
    have hc := isD_range (h c (List.mem_cons_self ..))
    have := ih (acc * 10 + (c.toNat - 48)) (fun x hx => h x (List.mem_cons_of_mem _ hx))
    simp only [List.foldl_cons, List.length_cons]
    refine Nat.lt_of_lt_of_le this ?_
    rw [Nat.pow_succ, Nat.mul_comm (10 ^ r.length) 10, ← Nat.mul_assoc]
    exact Nat.mul_le_mul_right _ (by omega)
theorem decV_lt (l : List UInt8) (h : ∀ x ∈ l, isD x = true) (n : Nat) (hn : l.length ≤ n) : decV l < 10 ^ n := by
  have := dec_lt l 0 h
  rw [Nat.zero_add, Nat.one_mul] at this
  exact Nat.lt_of_lt_of_le this (Nat.pow_le_pow_right (by decide) hn)
theorem Atoi_digits (s : ByteArray) (l : List UInt8) (h : s.data.toList = l) (w : World) (hl : l.length ≤ 15) (hd : ∀ x ∈ l, isD x = true) (hne : l ≠ []) :
    Calls Tryz.prog 195 #[.string s] w fun e w' => e = .returned (.tuple #[.int .i64 (decV l), .nilIface]) ∧ Below w.heap.size w w' := by
  subst h
  refine (Tryz.strconv_Atoi s _ (by rw [← list_len]; omega) (atoi_digits _ hd hne) w).mono ?_
  rintro e w' ⟨rfl, t, rfl⟩
  exact ⟨rfl, bytes_below (Below.refl _ w) (Nat.le_refl _) _ _⟩
end Go.Proofs.YtfploakafbnigaaGreatDoor
