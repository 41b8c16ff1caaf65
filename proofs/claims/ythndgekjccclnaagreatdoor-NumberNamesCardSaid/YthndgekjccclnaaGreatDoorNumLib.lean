/-
  Layer 9 (number): what the library's functions come to where number.of calls them, in the words of the plain spec.
-/
import Derived.Test.YthndgekjccclnaaGreatDoorNumCheck
import Derived.Lib.Atoi
import Derived.Lib.IndexAny
import Derived.Lib.ConvBytes
import Derived.Shelf.Strings.SlTrimAscii
namespace Go.Proofs.YthndgekjccclnaaGreatDoor
open Go.RowKit Num
set_option linter.unusedVariables false
set_option linter.unusedSimpArgs false

def bs (l : List UInt8) : ByteArray := ⟨l.toArray⟩
theorem bs_list (l : List UInt8) : (bs l).data.toList = l := rfl
theorem bs_size (l : List UInt8) : (bs l).size = l.length := by simp [bs, ByteArray.size]
theorem list_len (s : ByteArray) : s.data.toList.length = s.size := by rw [Array.length_toList]; rfl
theorem bs_eta (s : ByteArray) : s = bs s.data.toList := by simp [bs]
theorem bs_of {s : ByteArray} {l : List UInt8} (h : s.data.toList = l) : s = bs l := by rw [← h]; exact bs_eta s

/-- The package-level variable of strings.Index holds some int. -/
def ML (w : World) : Prop := ∃ m, w.cell? ⟨0, 0, none⟩ = some (.int .i64 m)
theorem ML.lt {w : World} (h : ML w) : 0 < w.heap.size := by
  obtain ⟨m, h⟩ := h
  exact World.block_lt_of_cell? w _ h
theorem ML.on {w w' : World} (h : ML w) (hb : Below w.heap.size w w') : ML w' := by
  have hl := h.lt
  obtain ⟨m, h⟩ := h
  exact ⟨m, (hb.cell (p := ⟨0, 0, none⟩) hl).trans h⟩

/-! ### the plain facts -/
theorem isPrefix_one (x : UInt8) (l : List UInt8) : [x].isPrefixOf l = decide (l.head? = some x) := by
  cases l with
  | nil => rfl
  | cons y r =>
    simp only [List.isPrefixOf, List.head?_cons, Option.some.injEq, Bool.and_true]
    by_cases h : x = y
    · subst h; simp
    · have h' : ¬ y = x := fun e => h e.symm
      simp [h, h']
theorem trimPrefix_one (l : List UInt8) : Lib.trimPrefix l [45] = plainOf l := by
  unfold Lib.trimPrefix Lib.hasPrefix plainOf
  rw [isPrefix_one]
  by_cases h : l.head? = some 45 <;> simp [h]
theorem hasPrefix_one (l : List UInt8) : Lib.hasPrefix l [45] = decide (l.head? = some 45) := isPrefix_one 45 l
theorem isE_contains (c : UInt8) : [101, 69].contains c = isE c := by
  unfold isE
  simp only [List.contains_cons, List.contains_nil, Bool.or_false]
theorem step_ix (t n : Nat) : (if ((if t < n then (t : Int) else -1) == -1) = true then -1 else (if t < n then (t : Int) else -1) + 1) = if t + 1 < n + 1 then ((t + 1 : Nat) : Int) else -1 := by
  by_cases h : t < n
  · have e : ((t : Int) == -1) = false := by rw [beq_eq_false_iff_ne]; omega
    simp [h, e]
  · simp [h]
theorem indexAny_e (l : List UInt8) : Lib.indexAny l [101, 69] = if (mantOf l).length < l.length then ((mantOf l).length : Int) else -1 := by
  induction l with
  | nil => rfl
  | cons c r ih =>
    unfold Lib.indexAny
    rw [isE_contains]
    unfold mantOf at ih ⊢
    rw [List.takeWhile_cons]
    cases h : isE c
    · simp only [Bool.false_eq_true, if_false, Bool.not_false, if_true, List.length_cons]
      rw [ih]
      exact step_ix _ _
    · simp
theorem takeWhile_length_eq {α : Type} (p : α → Bool) (l : List α) (h : ¬ (l.takeWhile p).length < l.length) : l.takeWhile p = l ∧ l.dropWhile p = [] := by
  induction l with
  | nil => exact ⟨rfl, rfl⟩
  | cons x r ih =>
    rw [List.takeWhile_cons] at h ⊢
    rw [List.dropWhile_cons]
    cases hx : p x
    · rw [hx] at h; simp at h
    · rw [hx] at h
      simp only [if_true, List.length_cons] at h ⊢
      have := ih (by omega)
      exact ⟨by rw [this.1], this.2⟩
theorem mant_whole {l : List UInt8} (h : ¬ (mantOf l).length < l.length) : mantOf l = l ∧ powOf l = [] := by
  have := takeWhile_length_eq (fun c => !isE c) l h
  exact ⟨this.1, by unfold powOf; rw [this.2]; rfl⟩
theorem take_takeWhile {α : Type} (p : α → Bool) (l : List α) : l.take (l.takeWhile p).length = l.takeWhile p := by
  induction l with
  | nil => rfl
  | cons x r ih => rw [List.takeWhile_cons]; cases hx : p x <;> simp [ih]
theorem drop_takeWhile {α : Type} (p : α → Bool) (l : List α) : l.drop (l.takeWhile p).length = l.dropWhile p := by
  induction l with
  | nil => rfl
  | cons x r ih => rw [List.takeWhile_cons, List.dropWhile_cons]; cases hx : p x <;> simp [ih]
theorem mant_take (l : List UInt8) : l.take (mantOf l).length = mantOf l := take_takeWhile _ l
theorem pow_drop (l : List UInt8) : l.drop ((mantOf l).length + 1) = powOf l := by
  unfold powOf mantOf
  rw [← drop_takeWhile, List.drop_drop]
theorem mant_le (l : List UInt8) : (mantOf l).length ≤ l.length := (List.takeWhile_sublist _).length_le
theorem index_dot (l : List UInt8) : Lib.index l [46] = if (aheadOf l).length < l.length then ((aheadOf l).length : Int) else -1 := by
  induction l with
  | nil => rfl
  | cons c r ih =>
    unfold Lib.index
    rw [isPrefix_one]
    unfold aheadOf at ih ⊢
    rw [List.takeWhile_cons]
    simp only [List.head?_cons, Option.some.injEq]
    by_cases h : c = 46
    · subst h; simp
    · have h' : (c == 46) = false := by simpa using h
      simp only [h, decide_false, Bool.false_eq_true, if_false, h', Bool.not_false, if_true, List.length_cons]
      rw [ih]
      exact step_ix _ _
theorem cut_dot (l : List UInt8) : (Lib.cut l [46]).1 = aheadOf l ∧ (Lib.cut l [46]).2.1 = behindOf l := by
  unfold Lib.cut
  rw [index_dot]
  by_cases h : (aheadOf l).length < l.length
  · rw [if_pos h, if_pos (by omega)]
    refine ⟨?_, ?_⟩
    · exact take_takeWhile _ l
    · show l.drop ((aheadOf l).length + 1) = behindOf l
      unfold behindOf aheadOf
      rw [← drop_takeWhile, List.drop_drop]
  · rw [if_neg h, if_neg (by decide)]
    have := takeWhile_length_eq (fun c => !(c == 46)) l h
    exact ⟨this.1.symm, by unfold behindOf; rw [this.2]; rfl⟩

/-! ### the contracts -/
theorem CutPrefix_minus (s : ByteArray) (l : List UInt8) (h : s.data.toList = l) (w : World) :
    Calls Tryz.prog 108 #[.string s, .string ⟨#[45]⟩] w fun e w' => e = .returned (.tuple #[.string (bs (plainOf l)), .bool (decide (l.head? = some 45))]) ∧ w = w' := by
  subst h
  refine (Tryz.strings_CutPrefix s ⟨#[45]⟩ w).mono ?_
  rintro e w' ⟨rfl, rfl⟩
  exact ⟨by rw [show (ByteArray.mk #[45]).data.toList = [45] from rfl, trimPrefix_one, hasPrefix_one]; rfl, rfl⟩
theorem HasPrefix_minus (s : ByteArray) (l : List UInt8) (h : s.data.toList = l) (w : World) :
    Calls Tryz.prog 113 #[.string s, .string ⟨#[45]⟩] w fun e w' => e = .returned (.bool (decide (l.head? = some 45))) ∧ w = w' := by
  subst h
  refine (Tryz.strings_HasPrefix s ⟨#[45]⟩ w).mono ?_
  rintro e w' ⟨rfl, rfl⟩
  exact ⟨by rw [show (ByteArray.mk #[45]).data.toList = [45] from rfl, hasPrefix_one], rfl⟩
theorem IndexAny_e (s : ByteArray) (l : List UInt8) (h : s.data.toList = l) (w : World) (hl : l.length < 4294967281) (ha : ∀ x ∈ l, x.toNat < 128) :
    Calls Tryz.prog 109 #[.string s, .string ⟨#[101, 69]⟩] w fun e w' => e = .returned (.int .i64 (if (mantOf l).length < l.length then ((mantOf l).length : Int) else -1)) ∧ Below w.heap.size w w' := by
  subst h
  refine (Tryz.strings_IndexAny_laid s ⟨#[101, 69]⟩ w (by rw [← list_len]; exact hl) (by decide) (fun j b hb => ha b (List.mem_of_getElem? hb)) (ascii_of_all (by decide))).mono ?_
  rintro e w' ⟨rfl, hb⟩
  exact ⟨by rw [show (ByteArray.mk #[101, 69]).data.toList = [101, 69] from rfl, indexAny_e], hb⟩
theorem Cut_dot (s : ByteArray) (l : List UInt8) (h : s.data.toList = l) (w : World) (hl : l.length < 4294967281) (hm : ML w) :
    Calls Tryz.prog 110 #[.string s, .string ⟨#[46]⟩] w fun e w' => (∃ v, e = .returned (.tuple #[.string (bs (aheadOf l)), .string (bs (behindOf l)), .bool v])) ∧ ∃ n, w' = w.drewN n := by
  subst h
  obtain ⟨m, hm⟩ := hm
  refine (Tryz.strings_Cut s ⟨#[46]⟩ m w (by rw [← list_len]; exact hl) hm).mono ?_
  rintro e w' ⟨rfl, hb⟩
  refine ⟨⟨(Lib.cut s.data.toList [46]).2.2, ?_⟩, hb⟩
  rw [show (ByteArray.mk #[46]).data.toList = [46] from rfl, (cut_dot _).1, (cut_dot _).2]; rfl
theorem TrimLeft_nought (s : ByteArray) (l : List UInt8) (h : s.data.toList = l) (w : World) :
    Calls Tryz.prog 111 #[.string s, .string ⟨#[48]⟩] w fun e w' => e = .returned (.string (bs (trimL l [48]))) ∧ w = w' := by
  subst h
  refine (Tryz.strings_TrimLeft_one s 48 (by decide) w).mono ?_
  rintro e w' ⟨rfl, rfl⟩
  refine ⟨?_, rfl⟩
  rw [← Lib.trimLeftS_one]; rfl
theorem TrimLeft_sign (s : ByteArray) (l : List UInt8) (h : s.data.toList = l) (w : World) :
    Calls Tryz.prog 111 #[.string s, .string ⟨#[43, 45]⟩] w fun e w' => e = .returned (.string (bs (trimL l [43, 45]))) ∧ Below w.heap.size w w' := by
  subst h
  refine (Any.strings_TrimLeft_laid Tryz.lays161 (by kernel_rfl) s ⟨#[43, 45]⟩ w (by decide) (ascii_of_all (by decide))).mono ?_
  rintro e w' ⟨rfl, hb⟩
  exact ⟨rfl, hb⟩
theorem TrimRight_nought (s : ByteArray) (l : List UInt8) (h : s.data.toList = l) (w : World) (hl : l.length < 4294967281) :
    Calls Tryz.prog 112 #[.string s, .string ⟨#[48]⟩] w fun e w' => e = .returned (.string (bs (trimR l [48]))) ∧ w = w' := by
  subst h
  refine (Tryz.strings_TrimRight_one s 48 (by decide) w (by rw [← list_len]; omega)).mono ?_
  rintro e w' ⟨rfl, rfl⟩
  refine ⟨?_, rfl⟩
  rw [← Lib.trimRightS_one]; rfl

theorem bytes_below {B : Nat} {w W : World} (h : Below B w W) (hB : B ≤ W.heap.size) (e : TypeId) (s : ByteArray) : Below B w (Lib.bytesWorld W e s) :=
  h.trans ⟨rfl, rfl, rfl, by rw [Lib.bytesWorld_size]; omega, fun i hi => Lib.bytesWorld_at_old W e s i (by omega)⟩
theorem isD_range {c : UInt8} (h : isD c = true) : 48 ≤ c.toNat ∧ c.toNat ≤ 57 := by
  unfold isD at h
  simp only [Bool.and_eq_true, decide_eq_true_eq, UInt8.le_iff_toNat_le] at h
  exact h
theorem decFrom_eq (l : List UInt8) (acc : Nat) (h : ∀ x ∈ l, isD x = true) : Lib.decFrom acc l = some (l.foldl (fun n c => n * 10 + (c.toNat - 48)) acc) := by
  induction l generalizing acc with
  | nil => rfl
  | cons c r ih =>
    unfold Lib.decFrom Lib.digitVal
    rw [if_pos (isD_range (h c (List.mem_cons_self ..)))]
    exact ih _ (fun x hx => h x (List.mem_cons_of_mem _ hx))
theorem atoi_digits (l : List UInt8) (h : ∀ x ∈ l, isD x = true) (hne : l ≠ []) : Lib.atoi l = some (decV l : Int) := by
  cases l with
  | nil => exact absurd rfl hne
  | cons c r =>
    have hc := isD_range (h c (List.mem_cons_self ..))
    have h1 : (c == 45) = false := by
      rw [beq_eq_false_iff_ne]; intro e; subst e; revert hc; decide
    have h2 : (c == 43) = false := by
      rw [beq_eq_false_iff_ne]; intro e; subst e; revert hc; decide
    unfold Lib.atoi
    simp only [h1, h2, Bool.false_eq_true, if_false]
    unfold Lib.decNat
    simp only [List.isEmpty_cons, Bool.false_eq_true, if_false]
    rw [decFrom_eq _ _ h]
    rfl
theorem dec_lt (l : List UInt8) (acc : Nat) (h : ∀ x ∈ l, isD x = true) : l.foldl (fun n c => n * 10 + (c.toNat - 48)) acc < (acc + 1) * 10 ^ l.length := by
  induction l generalizing acc with
  | nil => simp
  | cons c r ih =>
    have hc := isD_range (h c (List.mem_cons_self ..))
    have := ih (acc * 10 + (c.toNat - 48)) (fun x hx => h x (List.mem_cons_of_mem _ hx))
    simp only [List.foldl_cons, List.length_cons]
    refine Nat.lt_of_lt_of_le this ?_
    rw [Nat.pow_succ, Nat.mul_comm (10 ^ r.length) 10, ← Nat.mul_assoc]
    exact Nat.mul_le_mul_right _ (by omega)
theorem decV_lt (l : List UInt8) (h : ∀ x ∈ l, isD x = true) (n : Nat) (hn : l.length ≤ n) : decV l < 10 ^ n := by
  have := dec_lt l 0 h
  rw [Nat.zero_add, Nat.one_mul] at this
  exact Nat.lt_of_lt_of_le this (Nat.pow_le_pow_right (by decide) hn)
theorem Atoi_digits (s : ByteArray) (l : List UInt8) (h : s.data.toList = l) (w : World) (hl : l.length ≤ 15) (hd : ∀ x ∈ l, isD x = true) (hne : l ≠ []) :
    Calls Tryz.prog 114 #[.string s] w fun e w' => e = .returned (.tuple #[.int .i64 (decV l), .nilIface]) ∧ Below w.heap.size w w' := by
  subst h
  refine (Tryz.strconv_Atoi s _ (by rw [← list_len]; omega) (atoi_digits _ hd hne) w).mono ?_
  rintro e w' ⟨rfl, t, rfl⟩
  exact ⟨rfl, bytes_below (Below.refl _ w) (Nat.le_refl _) _ _⟩
end Go.Proofs.YthndgekjccclnaaGreatDoor
