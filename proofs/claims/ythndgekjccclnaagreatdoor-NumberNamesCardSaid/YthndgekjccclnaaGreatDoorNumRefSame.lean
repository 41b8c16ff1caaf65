/-
  Layer 9 (number), the walks: the document's answer (colophonref09): Same, at every two strings.
-/
import Derived.Test.YthndgekjccclnaaGreatDoorNumRefOfAny
import Derived.Test.YthndgekjccclnaaGreatDoorNumBytes
import Derived.WalkKit
import Derived.WalkSpells
import Derived.WalkLawsBesides
import Derived.Deep.DeepFit
import Derived.Lib.Hide
namespace Go.Proofs.YthndgekjccclnaaGreatDoor
open Go.RowKit Num
set_option linter.unusedVariables false
set_option linter.unusedSimpArgs false

theorem RefPost.none {e : Ending} {w : World} (h : RefPost none e w) : ∃ bl A n c pw, e = .returned (.tuple #[.agg #[.bool bl, .slice A n c, .int .i64 pw], .bool false]) := h
theorem RefPost.some {e : Ending} {w : World} {v : V} (h : RefPost (some v) e w) : ∃ A c, e = .returned (.tuple #[.agg #[.bool v.below, .slice A v.digits.length c, .int .i64 v.power], .bool true]) ∧ RB w w.heap.size A v.digits := h
def RefC (s : ByteArray) (o : Option V) : Prop := ∀ W, Calls Tryz.prog 96 #[.string s] W fun e w' => RefPost o e w' ∧ Below W.heap.size W w'

set_option maxHeartbeats 1000000 in
theorem RefSame_n (a b : ByteArray) (y : Option V) (w : World) (H1 : Hid (RefC a none)) (H2 : Hid (RefC b y)) :
    Calls Tryz.prog 56 #[.string a, .string b] w fun e w' => e = .returned (.bool false) ∧ Below w.heap.size w w' := by
  go_enter Tryz.func56, Tryz.ntmps56
  go_wp2_with fail
  refine (H1.out _).mono ?_
  rintro e w1 ⟨hp, hb⟩
  obtain ⟨bl, A, n, c, pw, rfl⟩ := hp.none
  have HB1 := Lib.hid hb
  clear hb hp
  cases y
  all_goals
    go_wp2_with fail
    refine (H2.out _).mono ?_
    rintro e w2 ⟨hp, hb⟩
    have hz : w1.heap.size < w2.heap.size := by have := hb.size; simp at this; omega
    have HB2 := Lib.hid ((HB1.out.alloc HB1.out.size _).trans (hb.mono (by simp; have := HB1.out.size; omega)))
    clear hb
    first | obtain ⟨bl', A', n', c', pw', rfl⟩ := hp.none | obtain ⟨A', c', rfl, hr⟩ := hp.some
    clear hp
    try clear hr
    go_wp2
    go_ret
    exact ⟨rfl, HB2.out.alloc HB2.out.size _⟩

set_option maxHeartbeats 1000000 in
theorem RefSame_sn (a b : ByteArray) (x : V) (w : World) (H1 : Hid (RefC a (some x))) (H2 : Hid (RefC b none)) :
    Calls Tryz.prog 56 #[.string a, .string b] w fun e w' => e = .returned (.bool false) ∧ Below w.heap.size w w' := by
  go_enter Tryz.func56, Tryz.ntmps56
  go_wp2_with fail
  refine (H1.out _).mono ?_
  rintro e w1 ⟨hp, hb⟩
  obtain ⟨A, c, rfl, hr⟩ := hp.some
  have HB1 := Lib.hid hb
  clear hb hp hr
  go_wp2_with fail
  refine (H2.out _).mono ?_
  rintro e w2 ⟨hp, hb⟩
  have hz : w1.heap.size < w2.heap.size := by have := hb.size; simp at this; omega
  have HB2 := Lib.hid ((HB1.out.alloc HB1.out.size _).trans (hb.mono (by simp; have := HB1.out.size; omega)))
  clear hb
  obtain ⟨bl', A', n', c', pw', rfl⟩ := hp.none
  clear hp
  go_wp2
  go_ret
  exact ⟨rfl, HB2.out.alloc HB2.out.size _⟩

set_option maxHeartbeats 2000000 in
theorem RefSame_ss (a b : ByteArray) (x y : V) (w : World) (H1 : Hid (RefC a (some x))) (H2 : Hid (RefC b (some y))) (hx : x.digits.length ≤ 4294967280) (hy : y.digits.length ≤ 4294967280) :
    Calls Tryz.prog 56 #[.string a, .string b] w fun e w' => e = .returned (.bool (decide (x = y))) ∧ Below w.heap.size w w' := by
  obtain ⟨xb, xd, xp⟩ := x
  obtain ⟨yb, yd, yp⟩ := y
  simp only at hx hy
  have hdec : decide ((⟨xb, xd, xp⟩ : V) = ⟨yb, yd, yp⟩) = ((xb == yb) && (xp == yp) && eqB xd yd) := by
    unfold eqB
    by_cases h1 : xb = yb <;> by_cases h2 : xd = yd <;> by_cases h3 : xp = yp <;> simp [h1, h2, h3]
  rw [hdec]
  clear hdec
  obtain ⟨q1, h1⟩ : ∃ q, (xb == yb) = q := ⟨_, rfl⟩
  obtain ⟨q2, h2⟩ : ∃ q, (xp == yp) = q := ⟨_, rfl⟩
  rw [h1, h2]
  have HE := Lib.hid (fun A A' c c' W (h : RB W W.heap.size A xd) (h' : RB W W.heap.size A' yd) => EqBytes_any A A' c c' W.heap.size xd yd W h h' (by omega) (by omega))
  generalize eqB xd yd = q3 at *
  go_enter Tryz.func56, Tryz.ntmps56
  go_wp2_with fail
  refine (H1.out _).mono ?_
  rintro e w1 ⟨hp, hb⟩
  obtain ⟨A, c, rfl, hr⟩ := hp.some
  have HR1 := Lib.hid hr
  have HB1 := Lib.hid hb
  clear hb hp hr
  go_wp2_with fail
  refine (H2.out _).mono ?_
  rintro e w2 ⟨hp, hb⟩
  obtain ⟨A', c', rfl, hr⟩ := hp.some
  have k0 : w2.cell? ⟨w1.heap.size, 0, none⟩ = some (.bool xb) := (hb.cell (p := ⟨w1.heap.size, 0, none⟩) (by simp)).trans (by rw [cell_of_row _ _ 0 _ _ _ (heap_alloc_new w1 _)]; rfl)
  have k1 : w2.cell? ⟨w1.heap.size, 1, none⟩ = some (.slice A xd.length c) := (hb.cell (p := ⟨w1.heap.size, 1, none⟩) (by simp)).trans (by rw [cell_of_row _ _ 1 _ _ _ (heap_alloc_new w1 _)]; rfl)
  have k2 : w2.cell? ⟨w1.heap.size, 2, none⟩ = some (.int .i64 xp) := (hb.cell (p := ⟨w1.heap.size, 2, none⟩) (by simp)).trans (by rw [cell_of_row _ _ 2 _ _ _ (heap_alloc_new w1 _)]; rfl)
  have HR1' := Lib.hid ((((HR1.out.on ((Below.refl _ w1).alloc (Nat.le_refl _) (.cells #[.bool xb, .slice A xd.length c, .int .i64 xp] 131))).mono (show w1.heap.size ≤ (w1.alloc (.cells #[.bool xb, .slice A xd.length c, .int .i64 xp] 131)).heap.size by simp)).on hb).mono hb.size)
  have HR2 := Lib.hid hr
  have hz : w1.heap.size < w2.heap.size := by have := hb.size; simp at this; omega
  have HB2 := Lib.hid ((HB1.out.alloc HB1.out.size _).trans (hb.mono (by simp; have := HB1.out.size; omega)))
  clear hb hp hr
  cases q1
  · go_wp2
    go_ret
    exact ⟨rfl, HB2.out.alloc HB2.out.size _⟩
  · cases q2
    · go_wp2
      go_ret
      exact ⟨rfl, HB2.out.alloc HB2.out.size _⟩
    · go_wp2_with fail
      refine (HE.out A A' c c' _ ((HR1'.out.on ((Below.refl _ w2).alloc (Nat.le_refl _) _)).mono (by simp)) ((HR2.out.on ((Below.refl _ w2).alloc (Nat.le_refl _) _)).mono (by simp))).mono ?_
      rintro e w3 ⟨rfl, n, rfl⟩
      go_wp2
      go_ret
      exact ⟨rfl, below_drewN (HB2.out.alloc HB2.out.size _) n⟩

theorem ofS_len {l : List UInt8} {v : V} (h : ofS l = some v) : v.digits.length ≤ l.length := by
  unfold ofS at h
  split at h
  · unfold Num.valOf at h
    split at h
    · obtain rfl := Option.some.inj h; simp
    · split at h
      · cases h
      · obtain rfl := Option.some.inj h
        show (trimR (digsOf (mantOf (plainOf l))) [48]).length ≤ _
        have h1 := trimR_le (digsOf (mantOf (plainOf l))) [48]
        have h2 := digsOf_le (mantOf (plainOf l))
        have h3 := mant_le (plainOf l)
        have h4 : (plainOf l).length ≤ l.length := by unfold plainOf; split <;> simp
        omega
  · cases h
/-- colophonref09.Same. -/
theorem refSame_any (a b : ByteArray) (la lb : List UInt8) (ha : a.data.toList = la) (hb : b.data.toList = lb) (w : World) (hla : la.length ≤ 4294967280) (hlb : lb.length ≤ 4294967280) :
    Calls Tryz.prog 56 #[.string a, .string b] w fun e w' => e = .returned (.bool (same la lb)) ∧ Below w.heap.size w w' := by
  have H1 := Lib.hid (show RefC a (ofS la) from fun W => RefOf_any a la ha W hla)
  have H2 := Lib.hid (show RefC b (ofS lb) from fun W => RefOf_any b lb hb W hlb)
  have l1 := fun v (h : ofS la = some v) => ofS_len h
  have l2 := fun v (h : ofS lb = some v) => ofS_len h
  unfold same
  generalize ofS la = x at *
  generalize ofS lb = y at *
  cases x with
  | none => exact RefSame_n a b y w H1 H2
  | some x =>
    cases y with
    | none => exact RefSame_sn a b x w H1 H2
    | some y => exact RefSame_ss a b x y w H1 H2 (Nat.le_trans (l1 x rfl) hla) (Nat.le_trans (l2 y rfl) hlb)
end Go.Proofs.YthndgekjccclnaaGreatDoor
