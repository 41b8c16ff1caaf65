/-
  Layer 9 (number): the walk of the statement NumberUnlike: it returns true at every two numbers.
-/
import Derived.Test.YtmolacockfekpaaDoorNumAwake
import Derived.Test.YtmolacockfekpaaDoorNumVal
import Derived.WalkKit
import Derived.WalkSpells
import Derived.WalkLawsBesides
import Derived.Deep.QuietTactic
import Derived.Deep.DeepFit
import Derived.Lib.Hide
import Derived.Laws.Bits128
namespace Go.Proofs.YtmolacockfekpaaDoor
open Go.RowKit Num
set_option linter.unusedVariables false
set_option linter.unusedSimpArgs false

theorem and53 (n : Int) : bits .and .i64 n 9007199254740991 = n % 9007199254740992 := by
  have h127 : (BitVec.ofInt 64 9007199254740991).toNat = 2 ^ 53 - 1 := by decide
  have key : (BitVec.ofInt 64 n &&& BitVec.ofInt 64 9007199254740991).toNat = (n % ((2 ^ 64 : Nat) : Int)).toNat % 2 ^ 53 := by
    rw [BitVec.toNat_and, BitVec.toNat_ofInt, h127, Nat.and_two_pow_sub_one_eq_mod]
  show IntKind.i64.wrap ((BitVec.ofInt 64 n &&& BitVec.ofInt 64 9007199254740991).toNat : Nat) = n % 9007199254740992
  rw [key, IntKind.wrap_i64]
  omega
theorem and53_nat (n : Int) : ∃ x : Nat, x < 9007199254740992 ∧ bits .and .i64 n 9007199254740991 = (x : Int) :=
  ⟨(n % 9007199254740992).toNat, by omega, by rw [and53]; omega⟩
/-- a whole number's text, with a sign, a point and a power behind it or none -/
theorem of_text (n : Nat) : ofS (textS n) = some (wval n false) := by
  have := of_val (g := []) (a := textS n) (f := []) (x := []) (.inl rfl) (textS_headF n) (.inl rfl) (.inl rfl) (by decide)
  simp only [List.nil_append, List.append_nil, List.drop_nil] at this
  rw [this]; rfl
theorem of_minus (n : Nat) : ofS (45 :: textS n) = some (wval n true) := by
  have := of_val (g := [45]) (a := textS n) (f := []) (x := []) (.inr rfl) (textS_headF n) (.inl rfl) (.inl rfl) (by decide)
  simp only [List.append_nil, List.drop_nil] at this
  rw [show (45 : UInt8) :: textS n = [45] ++ textS n from rfl, this]; rfl
theorem expF_3 : ExpF [101, 45, 51] := .inr ⟨101, [45], [51], rfl, rfl, .inr (.inr rfl), by simp, by
  intro y hy
  have : y = 51 := by simpa using hy
  subst this; rfl⟩
theorem of_thousandth (n : Nat) : ofS (textS n ++ [101, 45, 51]) = some (valT false (trimL (textS n) [48]) (-3)) := by
  have := of_val (g := []) (a := textS n) (f := []) (x := [101, 45, 51]) (.inl rfl) (textS_headF n) (.inl rfl) expF_3 (by decide)
  simp only [List.nil_append, List.append_nil, List.drop_nil] at this
  rw [this]; rfl
theorem same_text (x y : Nat) : same (textS x) (textS y) = decide (x = y) := by
  unfold same
  rw [of_text, of_text]
  show decide (wval x false = wval y false) = decide (x = y)
  rw [decide_eq_decide]
  exact ⟨fun h => wval_inj 0 h, fun h => by rw [h]⟩
theorem same_thousandth (x y : Nat) : same (textS x ++ [101, 45, 51]) (textS y ++ [101, 45, 51]) = decide (x = y) := by
  unfold same
  rw [of_thousandth, of_thousandth]
  show decide (valT false (trimL (textS x) [48]) (-3) = valT false (trimL (textS y) [48]) (-3)) = decide (x = y)
  rw [decide_eq_decide]
  exact ⟨fun h => wval_inj (-3) h, fun h => by rw [h]⟩
theorem same_neg (x y : Nat) : same (45 :: textS x) (textS y) = decide (x = 0 ∧ y = 0) := by
  unfold same
  rw [of_minus, of_text]
  show decide (wval x true = wval y false) = decide (x = 0 ∧ y = 0)
  rw [decide_eq_decide]
  refine ⟨fun h => ?_, fun h => by rw [h.1, h.2]; unfold wval; rw [textS_zero]; rfl⟩
  have e := wval_inj 0 h
  subst e
  by_cases h0 : x = 0
  · exact ⟨h0, h0⟩
  · exfalso
    unfold wval at h
    have := trimL_text (n := x) (by omega) []
    rw [List.append_nil] at this
    rw [this] at h
    exact absurd (valT_inj (textS_ne x) (textS_ne x) h).1 (by decide)

/-- what Same comes to at two texts -/
def SameT (a b : List UInt8) (r : Bool) : Prop := ∀ W, ML W → Calls Tryd.prog 16 #[.string (bs a), .string (bs b)] W fun e w' => e = .returned (.bool r) ∧ Below W.heap.size W w'
theorem sameT {a b : List UInt8} {r : Bool} (h : same a b = r) (ha : a.length < 4294967281) (hb : b.length < 4294967281) : SameT a b r := fun W hW => by
  subst h
  exact Same_any (bs a) (bs b) a b rfl rfl W hW ha hb

set_option maxRecDepth 100000 in
set_option maxHeartbeats 4000000 in
theorem Unlike_core (a b : Int) (w : World) (HM : Hid (ML w)) (x y : Nat) (ex : bits BinOp.and IntKind.i64 a 9007199254740991 = (x : Int)) (ey : bits BinOp.and IntKind.i64 b 9007199254740991 = (y : Int)) (sx sy : List UInt8)
    (T1 : Hid (∀ (W : World), Calls Tryd.prog 22 #[.int .i64 x] W fun e w' => e = .returned (.string (bs sx)) ∧ Below W.heap.size W w'))
    (T2 : Hid (∀ (W : World), Calls Tryd.prog 22 #[.int .i64 y] W fun e w' => e = .returned (.string (bs sy)) ∧ Below W.heap.size W w'))
    (c1 : (bs sx).size + (ByteArray.mk #[101, 45, 51]).size ≤ 9223372036854775807) (c2 : (bs sy).size + (ByteArray.mk #[101, 45, 51]).size ≤ 9223372036854775807) (c3 : (ByteArray.mk #[45]).size + (bs sx).size ≤ 9223372036854775807)
    (q z1 z2 : Bool) (k1 : ((x : Int) == (y : Int)) = q) (k1' : (x == y) = q) (k2 : ((x : Int) == 0) = z1) (k2' : (x == 0) = z1) (k3 : ((y : Int) == 0) = z2) (k3' : (y == 0) = z2)
    (S1 : Hid (SameT sx sy q)) (S2 : Hid (SameT (sx ++ [101, 45, 51]) (sy ++ [101, 45, 51]) q)) (S3 : Hid (SameT (45 :: sx) sy (z1 && z2))) :
    Calls Tryd.prog 9 #[.int .i64 a, .int .i64 b] w fun e w' => e = .returned (.bool true) ∧ Below w.heap.size w w' := by
  have e1 : bs sx ++ ByteArray.mk #[101, 45, 51] = bs (sx ++ [101, 45, 51]) := ByteArray.mk_append_mk _ _
  have e2 : bs sy ++ ByteArray.mk #[101, 45, 51] = bs (sy ++ [101, 45, 51]) := ByteArray.mk_append_mk _ _
  have e3 : ByteArray.mk #[45] ++ bs sx = bs (45 :: sx) := ByteArray.mk_append_mk _ _
  have S2' := Lib.hid (e1 ▸ e2 ▸ S2.out : ∀ W, ML W → Calls Tryd.prog 16 #[.string (bs sx ++ ByteArray.mk #[101, 45, 51]), .string (bs sy ++ ByteArray.mk #[101, 45, 51])] W fun e w' => e = .returned (.bool q) ∧ Below W.heap.size W w')
  have S3' := Lib.hid (e3 ▸ S3.out : ∀ W, ML W → Calls Tryd.prog 16 #[.string (ByteArray.mk #[45] ++ bs sx), .string (bs sy)] W fun e w' => e = .returned (.bool (z1 && z2)) ∧ Below W.heap.size W w')
  clear e1 e2 e3 S2 S3
  cases q <;> cases z1 <;> cases z2
  all_goals
    simp only [Bool.and_true, Bool.true_and, Bool.and_false, Bool.false_and] at S3'
    go_enter Tryd.func9, Tryd.ntmps9
    go_wp2_with fail
    refine (T1.out _).mono ?_
    rintro e w1 ⟨rfl, hb⟩
    have HB1 := Lib.hid hb
    clear hb
    go_wp2_with fail
    refine (T2.out _).mono ?_
    rintro e w2 ⟨rfl, hb⟩
    have HB2 := Lib.hid (HB1.out.trans (hb.mono HB1.out.size))
    have HM2 := Lib.hid (HM.out.on HB2.out)
    clear hb
    go_wp2_with fail
    refine (S1.out _ HM2.out).mono ?_
    rintro e w3 ⟨rfl, hb⟩
    have HB3 := Lib.hid (HB2.out.trans (hb.mono HB2.out.size))
    have HM3 := Lib.hid (HM.out.on HB3.out)
    clear hb
    go_wp2_with fail
    refine (S2'.out _ (by exact HM3.out)).mono ?_
    rintro e w4 ⟨rfl, hb⟩
    have HB4 := Lib.hid (HB3.out.trans (hb.mono HB3.out.size))
    have HM4 := Lib.hid (HM.out.on HB4.out)
    clear hb
    go_wp2_with fail
    refine (S3'.out _ (by exact HM4.out)).mono ?_
    rintro e w5 ⟨rfl, hb⟩
    have HB5 := Lib.hid (HB4.out.trans (hb.mono HB4.out.size))
    have HM5 := Lib.hid (HM.out.on HB5.out)
    clear hb
    go_wp2_with fail
    refine (awake_true _ (by exact HM5.out)).mono ?_
    rintro e w6 ⟨rfl, hb⟩
    have HB6 := Lib.hid (HB5.out.trans (hb.mono HB5.out.size))
    clear hb
    go_wp2
    go_ret
    exact ⟨rfl, HB6.out⟩

theorem NumberUnlike_walk (a b : Int) (w : World) (hM : ML w) :
    Calls Tryd.prog 9 #[.int .i64 a, .int .i64 b] w fun e w' => e = .returned (.bool true) ∧ Below w.heap.size w w' := by
  obtain ⟨x, hx, ex⟩ := and53_nat a
  obtain ⟨y, hy, ey⟩ := and53_nat b
  have lx := textS_len x 15 (by omega)
  have ly := textS_len y 15 (by omega)
  have qq : ∀ p q : Nat, ((p : Int) == (q : Int)) = decide (p = q) := fun p q => by
    by_cases h : p = q
    · subst h; simp
    · have : ((p : Int) == (q : Int)) = false := by rw [beq_eq_false_iff_ne]; omega
      rw [this]; simp [h]
  refine Unlike_core a b w (Lib.hid hM) x y ex ey (textS x) (textS y) (Lib.hid (fun W => text_any x W (by omega))) (Lib.hid (fun W => text_any y W (by omega)))
    (by rw [bs_size, show (ByteArray.mk #[101, 45, 51]).size = 3 from rfl]; omega) (by rw [bs_size, show (ByteArray.mk #[101, 45, 51]).size = 3 from rfl]; omega) (by rw [bs_size, show (ByteArray.mk #[45]).size = 1 from rfl]; omega)
    (decide (x = y)) (decide (x = 0)) (decide (y = 0)) (qq x y) (by by_cases h : x = y <;> simp [h]) (qq x 0) (by by_cases h : x = 0 <;> simp [h]) (qq y 0) (by by_cases h : y = 0 <;> simp [h])
    (Lib.hid (sameT (same_text x y) (by omega) (by omega))) (Lib.hid (sameT (same_thousandth x y) (by simp; omega) (by simp; omega)))
    (Lib.hid (sameT (by rw [same_neg]; exact Bool.decide_and _ _) (by simp; omega) (by omega)))
end Go.Proofs.YtmolacockfekpaaDoor
