/-
  Layer 9 (number): the walk of the statement NumberPlaces: it returns true at every row of rows of bytes, row of bytes, and byte.
-/
import Derived.Test.YtmolacockfekpaaDoorNumLawNoughts
import Derived.WalkKit
import Derived.WalkSpells
import Derived.WalkLawsBesides
import Derived.Deep.QuietTactic
import Derived.Deep.RegionHeld3
import Derived.Deep.RegionWith
import Derived.Deep.DeepFit
import Derived.Lib.Hide
import Derived.Lib.AppendStr
namespace Go.Proofs.YtmolacockfekpaaDoor
open Go.RowKit Num
set_option linter.unusedVariables false
set_option linter.unusedSimpArgs false

def placesS (D0 D1 D2 : List UInt8) : List UInt8 := [45] ++ (([49] ++ D0) ++ ((46 :: (D1 ++ [50])) ++ (101 :: ([43] ++ (D2 ++ [51])))))
theorem digs_one {c : UInt8} (h : isD c = true) : Digs [c] := digs_cons h (fun y hy => by cases hy)
theorem placesS_forms {D0 D1 D2 : List UInt8} (h0 : Digs D0) (h1 : Digs D1) : HeadF ([49] ++ D0) ∧ FracF (46 :: (D1 ++ [50])) :=
  ⟨⟨by simp, digs_cons rfl h0, .inr (by simp)⟩, .inr ⟨_, rfl, by simp, digs_append h1 (digs_one rfl)⟩⟩
theorem places_whole {D0 D1 D2 : List UInt8} (h0 : Digs D0) (h1 : Digs D1) (h2 : Digs D2) : checkN (placesS D0 D1 D2) 0 = ((placesS D0 D1 D2).length, 0) := by
  have hf := placesS_forms (D2 := D2) h0 h1
  have := checkN_to (l := placesS D0 D1 D2) (i := 0) (g := [45]) (a := [49] ++ D0) (f := 46 :: (D1 ++ [50])) (x := 101 :: ([43] ++ (D2 ++ [51]))) (t := []) (by unfold placesS; simp) (.inr rfl) hf.1 hf.2
    (.inr ⟨101, [43], _, rfl, rfl, .inr (.inl rfl), by simp, digs_append h2 (digs_one rfl)⟩) noD_nil (fun _ => rfl)
  rw [this]
  congr 1
  unfold placesS
  simp only [List.length_append, List.length_cons, List.length_nil]
  omega
theorem places_check {D0 D1 D2 : List UInt8} (ahead : List UInt8) (c : UInt8) (h0 : Digs D0) (h1 : Digs D1) (h2 : Digs D2) :
    check (ahead ++ placesS D0 D1 D2 ++ [c]) ahead.length = if isD c then ((ahead ++ placesS D0 D1 D2 ++ [c]).length, 0) else ((ahead ++ placesS D0 D1 D2 ++ [c]).length - 1, 0) := by
  have hf := placesS_forms (D2 := D2) h0 h1
  unfold check
  rw [if_neg (by simp only [List.length_append]; omega), Int.toNat_natCast]
  cases hc : isD c
  · have := checkN_to (l := ahead ++ placesS D0 D1 D2 ++ [c]) (i := ahead.length) (g := [45]) (a := [49] ++ D0) (f := 46 :: (D1 ++ [50])) (x := 101 :: ([43] ++ (D2 ++ [51]))) (t := [c])
      (by rw [List.append_assoc, List.drop_left]; unfold placesS; simp) (.inr rfl) hf.1 hf.2 (.inr ⟨101, [43], _, rfl, rfl, .inr (.inl rfl), by simp, digs_append h2 (digs_one rfl)⟩)
      (fun y hy => by have : y = c := by simpa using hy.symm
                      rw [this]; exact hc) (fun h => by cases h)
    rw [this]
    simp only [Bool.false_eq_true, if_false]
    congr 1
    unfold placesS
    simp only [List.length_append, List.length_cons, List.length_nil]
    omega
  · have := checkN_to (l := ahead ++ placesS D0 D1 D2 ++ [c]) (i := ahead.length) (g := [45]) (a := [49] ++ D0) (f := 46 :: (D1 ++ [50])) (x := 101 :: ([43] ++ (D2 ++ [51, c]))) (t := [])
      (by rw [List.append_assoc, List.drop_left]; unfold placesS; simp) (.inr rfl) hf.1 hf.2 (.inr ⟨101, [43], _, rfl, rfl, .inr (.inl rfl), by simp, digs_append h2 (digs_cons rfl (digs_one hc))⟩)
      noD_nil (fun _ => rfl)
    rw [this]
    simp only [if_true]
    congr 1
    unfold placesS
    simp only [List.length_append, List.length_cons, List.length_nil]
    omega

/-- A row of rows of bytes lies in memory. -/
def RS (w : World) (B : Nat) (a : Option Addr) (n : Nat) : Prop :=
  ∀ j, j < n → ∃ b off A c l, a = some ⟨b, off, none⟩ ∧ b < B ∧ w.cell? ⟨b, off + j, none⟩ = some (.slice A (l : List UInt8).length c) ∧ RB w B A l ∧ l.length ≤ 9223372036854775807
theorem RS.on {w w' : World} {B : Nat} {a : Option Addr} {n : Nat} (h : RS w B a n) (hb : Below B w w') : RS w' B a n := fun j hj => by
  obtain ⟨b, off, A, c, l, e, hlt, hc, hr, hl⟩ := h j hj
  exact ⟨b, off, A, c, l, e, hlt, (hb.cell (p := ⟨b, off + j, none⟩) hlt).trans hc, hr.on hb, hl⟩
theorem RS.mono {w : World} {B B' : Nat} {a : Option Addr} {n : Nat} (h : RS w B a n) (hB : B ≤ B') : RS w B' a n := fun j hj => by
  obtain ⟨b, off, A, c, l, e, hlt, hc, hr, hl⟩ := h j hj
  exact ⟨b, off, A, c, l, e, Nat.lt_of_lt_of_le hlt hB, hc, hr.mono hB, hl⟩
/-- some digits were handed back -/
def SomeDigs (e : Ending) : Prop := ∃ D, e = .returned (.string (bs D)) ∧ Digs D ∧ D.length ≤ 30
set_option maxRecDepth 100000 in
set_option maxHeartbeats 1000000 in
theorem part_any (A : Option Addr) (n c i : Nat) (w : World) (hr : RS w w.heap.size A n) (hi : i < 3) (hn : n ≤ 9223372036854775807) :
    Calls Tryd.prog 26 #[.slice A n c, .int .i64 i] w fun e w' => SomeDigs e ∧ Below w.heap.size w w' := by
  by_cases h : i < n
  · obtain ⟨b, off, A', c', l, rfl, hlt, hc, hrb, hl⟩ := hr i h
    have C := Lib.hid (fun W h => digs_any A' c' l W h (by omega))
    have HR := Lib.hid hrb
    have HD := Lib.hid (show SomeDigs (.returned (.string (bs (digitsS l)))) from ⟨_, rfl, digitsS_digs l, digitsS_len l⟩)
    have e1 : decide ((i : Int) < (n : Int)) = true := by simp; omega
    clear hr hrb
    go_enter Tryd.func26, Tryd.ntmps26
    go_wp2_with fail
    refine (C.out _ HR.out).mono ?_
    rintro e w1 ⟨rfl, hb⟩
    have HB := Lib.hid hb
    clear hb
    go_wp2
    go_ret
    exact ⟨HD.out, HB.out⟩
  · have HD := Lib.hid (show SomeDigs (.returned (.string ⟨#[]⟩)) from ⟨[], rfl, (fun x hx => by cases hx), by decide⟩)
    have e1 : decide ((i : Int) < (n : Int)) = false := by simp; omega
    have e2 : decide (i < n) = false := by simp; omega
    clear hr
    go_enter Tryd.func26, Tryd.ntmps26
    go_wp2
    go_ret
    exact ⟨HD.out, Below.refl _ _⟩

/-- CopyBytes: a row of its own. -/
def OwnCells (base : Nat) (l : List UInt8) (e : Ending) (w' : World) : Prop := ∃ v, e = .returned v ∧ w'.ownsRow base 5 1 v l.length (cellsOf l)
set_option maxHeartbeats 400000 in
theorem CopyBytes_own (A : Option Addr) (c : Nat) (l : List UInt8) (w : World) (hr : RB w w.heap.size A l) (hn : l.length ≤ 140737488355328) :
    Calls Tryd.prog 11 #[.slice A l.length c] w fun e w' => OwnCells w.heap.size l e w' ∧ Below w.heap.size w w' := by
  rcases A with _ | ⟨b, off, x⟩
  · have hl : l = [] := by
      rcases hr with h | ⟨_, _, h, _⟩
      · exact h
      · cases h
    subst hl
    clear hr
    go_enter Tryd.func11, Tryd.ntmps11
    go_wp2
    go_ret
    exact ⟨⟨_, rfl, World.ownsRow_nil _ _ _ _⟩, Below.refl _ _⟩
  · have hcl : ∀ (j : Nat) u, (cellsOf l)[j]? = some u → w.cell? ((⟨b, off, x⟩ : Addr).add j) = some u := by
      intro j u hu
      have hj : j < l.length := by
        have := (List.getElem?_eq_some_iff.1 hu).1
        simpa [cellsOf] using this
      rw [cellsOf_get l j hj] at hu
      rcases hr with h | ⟨b', off', h, _, hc⟩
      · subst h; simp at hj
      · have h' := Option.some.inj h
        simp only [Addr.mk.injEq] at h'
        obtain ⟨rfl, rfl, rfl⟩ := h'
        rw [← Option.some.inj hu]
        have e : (⟨b, off, none⟩ : Addr).add j = ⟨b, off + j, none⟩ := by unfold Addr.add; split <;> simp_all
        rw [e]
        exact hc j hj
    obtain ⟨i0, hi, hz0, hz1, hz2⟩ := info_parts info5u
    have HC := Lib.hid hcl
    have hlen : (cellsOf l).length = l.length := by simp [cellsOf]
    have HL := Lib.hid hlen
    clear hr hcl hlen
    go_enter Tryd.func11, Tryd.ntmps11
    go_wp2_with (at_builtin; refine wpList_append_own _ rfl (.tmp 4) (.tmp 5) 22 rfl w.heap.size 5 i0 (.int .u8 0) 1 1 Tryd.underlying22 hi hz0 hz1 hz2 rfl (by decide) (.slice none 0 0) 0 [] rfl (World.ownsRow_nil _ _ _ _) ⟨b, off, x⟩ l.length c (cellsOf l) rfl (by rw [HL.out, Nat.mul_one]) HC.out (cellsOf_one l) (by unfold maxLen; omega) (by omega) (Nat.le_refl _) ?_; intro v' w1 hown hgrow _)
    rw [Nat.zero_add, List.nil_append] at hown
    have hbel : Below w.heap.size w w1 := (Below.refl _ w).grown hgrow (Nat.le_refl _) (fun k hk => by cases hk)
    have HO := Lib.hid hown
    clear hown hgrow hz0 hz1 hz2 hi
    have HB := Lib.hid hbel
    clear hbel
    go_wp2
    go_ret
    exact ⟨⟨v', rfl, HO.out⟩, HB.out⟩

theorem strCells_of (l : List UInt8) : Lib.strCells (bs l) = cellsOf l := rfl
set_option maxRecDepth 100000 in
set_option maxHeartbeats 4000000 in
theorem Places_core (A1 A2 : Option Addr) (n1 c1 c2 : Nat) (l2 : List UInt8) (y : UInt8) (w : World) (HM : Hid (ML w)) (HR1 : Hid (RS w w.heap.size A1 n1)) (HR2 : Hid (RB w w.heap.size A2 l2)) (hn1 : n1 ≤ 9223372036854775807) (hn2 : l2.length ≤ 140737488351232) :
    Calls Tryd.prog 10 #[.slice A1 n1 c1, .slice A2 l2.length c2, .int .u8 y.toNat] w fun e w' => e = .returned (.bool true) ∧ Below w.heap.size w w' := by
  have P0 := Lib.hid (fun W (h : RS W W.heap.size A1 n1) => part_any A1 n1 c1 0 W h (by omega) hn1)
  have P1 := Lib.hid (fun W (h : RS W W.heap.size A1 n1) => part_any A1 n1 c1 1 W h (by omega) hn1)
  have P2 := Lib.hid (fun W (h : RS W W.heap.size A1 n1) => part_any A1 n1 c1 2 W h (by omega) hn1)
  obtain ⟨i0, hi, hz0, hz1, hz2⟩ := info_parts info5u
  have HI := Lib.hid hi
  have HZ0 := Lib.hid hz0
  have HZ1 := Lib.hid hz1
  have HZ2 := Lib.hid hz2
  clear hi hz0 hz1 hz2
  go_enter Tryd.func10, Tryd.ntmps10
  go_wp2_with fail
  refine (P0.out _ HR1.out).mono ?_
  rintro e w1 ⟨⟨D0, rfl, h0, d0⟩, hb⟩
  have HB1 := Lib.hid hb
  have HD0 := Lib.hid h0
  clear hb h0
  obtain ⟨X1, e1⟩ : ∃ X, X = [45, 49] ++ D0 := ⟨_, rfl⟩
  obtain ⟨X2, e2⟩ : ∃ X, X = X1 ++ [46] := ⟨_, rfl⟩
  have E1 := Lib.hid e1
  have E2 := Lib.hid e2
  have q1 := cat_of (a := ⟨#[45, 49]⟩) (la := [45, 49]) (b := bs D0) rfl rfl (by simp; omega) e1.symm
  have q2 := cat_of (b := ⟨#[46]⟩) (lb := [46]) (a := bs X1) rfl rfl (by rw [e1]; simp; omega) e2.symm
  unfold Cat at q1 q2
  clear e1 e2
  go_wp2_with fail
  refine (P1.out _ (by exact (HR1.out.on HB1.out).mono HB1.out.size)).mono ?_
  rintro e w2 ⟨⟨D1, rfl, h1, d1⟩, hb⟩
  have HB2 := Lib.hid (HB1.out.trans (hb.mono HB1.out.size))
  have HD1 := Lib.hid h1
  clear hb h1 q1 q2
  obtain ⟨X3, e3⟩ : ∃ X, X = X2 ++ D1 := ⟨_, rfl⟩
  obtain ⟨X4, e4⟩ : ∃ X, X = X3 ++ [50, 101, 43] := ⟨_, rfl⟩
  have E3 := Lib.hid e3
  have E4 := Lib.hid e4
  have z2 : X2.length ≤ 33 := by rw [E2.out, E1.out]; simp; omega
  have z3 : X3.length ≤ 63 := by rw [e3]; simp; omega
  have z4 : X4.length ≤ 66 := by rw [e4]; simp; omega
  have q3 := cat_of (a := bs X2) (b := bs D1) rfl rfl (by omega) e3.symm
  have q4 := cat_of (b := ⟨#[50, 101, 43]⟩) (lb := [50, 101, 43]) (a := bs X3) rfl rfl (by simp; omega) e4.symm
  unfold Cat at q3 q4
  clear e3 e4
  go_wp2_with fail
  refine (P2.out _ (by exact (HR1.out.on HB2.out).mono HB2.out.size)).mono ?_
  rintro e w3 ⟨⟨D2, rfl, h2, d2⟩, hb⟩
  have HB3 := Lib.hid (HB2.out.trans (hb.mono HB2.out.size))
  have HD2 := Lib.hid h2
  clear hb h2 q3 q4
  obtain ⟨X5, e5⟩ : ∃ X, X = X4 ++ D2 := ⟨_, rfl⟩
  obtain ⟨S, e6⟩ : ∃ X, X = X5 ++ [51] := ⟨_, rfl⟩
  have hS : Hid (S = placesS D0 D1 D2) := Lib.hid (by rw [e6, e5, E4.out, E3.out, E2.out, E1.out]; unfold placesS; simp)
  have z5 : X5.length ≤ 96 := by rw [e5]; simp; omega
  have z6 : S.length ≤ 97 := by rw [e6]; simp; omega
  have q5 := cat_of (a := bs X4) (b := bs D2) rfl rfl (by omega) e5.symm
  have q6 := cat_of (b := ⟨#[51]⟩) (lb := [51]) (a := bs X5) rfl rfl (by simp; omega) e6.symm
  unfold Cat at q5 q6
  clear e5 e6 E1 E2 E3 E4 P0 P1 P2 z2 z3 z4
  go_wp2_with fail
  refine (CopyBytes_own A2 c2 l2 _ (by exact (HR2.out.on HB3.out).mono HB3.out.size) (by omega)).mono ?_
  rintro e w4 ⟨⟨v4, rfl, hown⟩, hb⟩
  have HB4 := Lib.hid (HB3.out.trans (hb.mono HB3.out.size))
  have HO4 := Lib.hid hown
  have HS4 := Lib.hid hb.size
  clear hb hown q5 q6
  have hsz : S.length = (bs S).size := (bs_size S).symm
  have HSZ := Lib.hid hsz
  clear hsz
  go_wp2_with (first
    | (at_builtin; refine Lib.wpList_append_own_string _ rfl _ _ 22 9 rfl w3.heap.size 5 i0 Tryd.underlying22 Tryd.underlying9 HI.out HZ0.out HZ1.out HZ2.out _ _ _ rfl HO4.out (bs S) rfl (by rw [bs_size]; unfold maxLen; omega) (by rw [bs_size]; omega) HS4.out ?_; intro v5 w5 hown hgrow _
       rw [bs_size, strCells_of] at hown
       have HO5 := Lib.hid hown
       have HB5 := Lib.hid (HB4.out.grown hgrow HB4.out.size (fun q hq => Nat.le_trans HB3.out.size (HO4.out.lt q hq).1))
       have HS5 := Lib.hid (Nat.le_trans HS4.out hgrow.size)
       clear hown hgrow)
    | (at_builtin; go_loud (refine wpList_append_own _ rfl _ _ 22 rfl w3.heap.size 5 i0 (.int .u8 0) 1 1 Tryd.underlying22 HI.out HZ0.out HZ1.out HZ2.out rfl (by decide) _ _ _ rfl (HO5.out.alloc _) ⟨w5.heap.size, 0, none⟩ 1 1 [.int .u8 (y.toNat : Int)] rfl rfl (cell_one _ _ _) (fun x hx => by simp at hx; subst hx; rfl) (by unfold maxLen; omega) (by omega) (by simp; have := HS5.out; omega) ?_); intro v6 w6 hown hgrow _
       have HO6 := Lib.hid hown
       have HG6 := Lib.hid hgrow
       clear hown hgrow))
  have hown := HO6.out
  have hgrow := HG6.out
  have hcl : cellsOf l2 ++ cellsOf S ++ [.int .u8 (y.toNat : Int)] = cellsOf (l2 ++ S ++ [y]) := by simp [cellsOf]
  have hlen6 : l2.length + S.length + 1 = (l2 ++ S ++ [y]).length := by simp only [List.length_append, List.length_cons, List.length_nil]
  rw [hcl, hlen6] at hown
  have HB6 := Lib.hid ((HB5.out.alloc HB5.out.size _).grown hgrow (by simp; have := HB5.out.size; omega) (fun q hq => Nat.le_trans HB3.out.size (HO5.out.lt q hq).1))
  obtain ⟨A6, c6, rfl, hrb⟩ := RB_of_own hown
  have CK := Lib.hid (Check_any c6 A6 (l2 ++ S ++ [y]) l2.length w6 hrb (by rw [← hlen6]; omega))
  clear hown hgrow hcl hrb
  have hck := places_check l2 y HD0.out HD1.out HD2.out
  have hwh := places_whole HD0.out HD1.out HD2.out
  rw [← hS.out] at hck hwh
  rw [hck] at CK
  have EN := Lib.hid (fun W => ends_true (bs S) S rfl ((bs S).size : Int) W (by omega) ⟨S.length, by rw [bs_size], hwh⟩)
  clear hck hwh
  generalize (l2 ++ S ++ [y]).length = M at *
  obtain ⟨m, rfl⟩ : ∃ m, M = m + 1 := ⟨l2.length + S.length, hlen6.symm⟩
  have hm : m ≤ 140737488351332 := by omega
  clear hlen6
  have HN := Lib.hid (isD_iff y)
  cases hy : isD y
  · rw [hy] at CK HN
    simp only [Bool.false_eq_true, if_false, Nat.add_sub_cancel] at CK
    have hn := HN.out
    generalize y.toNat = b at *
    have hb : b < 48 ∨ (48 ≤ b ∧ 57 < b) := by
      have := of_decide_eq_false hn.symm
      omega
    clear hn HN hy
    rcases hb with hb | ⟨hb0, hb⟩
    all_goals
      go_wp2_with fail
      refine CK.out.mono ?_
      rintro e w7 ⟨rfl, hb7⟩
      have HB7 := Lib.hid (HB6.out.trans (hb7.mono HB6.out.size))
      clear hb7
      go_wp2_with fail
      refine (EN.out _).mono ?_
      rintro e w8 ⟨rfl, hb8⟩
      have HB8 := Lib.hid (HB7.out.trans (hb8.mono HB7.out.size))
      clear hb8
      go_wp2_with fail
      refine (awake_true _ (by exact HM.out.on HB8.out)).mono ?_
      rintro e w9 ⟨rfl, hb9⟩
      have HB9 := Lib.hid (HB8.out.trans (hb9.mono HB8.out.size))
      clear hb9
      go_wp2
      go_ret
      exact ⟨rfl, HB9.out⟩
  · rw [hy] at CK HN
    simp only [if_true] at CK
    have hn := HN.out
    generalize y.toNat = b at *
    have hb := of_decide_eq_true hn.symm
    clear hn HN hy
    go_wp2_with fail
    refine CK.out.mono ?_
    rintro e w7 ⟨rfl, hb7⟩
    have HB7 := Lib.hid (HB6.out.trans (hb7.mono HB6.out.size))
    clear hb7
    go_wp2_with fail
    refine (awake_true _ (by exact HM.out.on HB7.out)).mono ?_
    rintro e w8 ⟨rfl, hb8⟩
    have HB8 := Lib.hid (HB7.out.trans (hb8.mono HB7.out.size))
    clear hb8
    go_wp2
    go_ret
    exact ⟨rfl, HB8.out⟩

theorem NumberPlaces_walk (A1 : Option Addr) (n1 c1 : Nat) (A2 : Option Addr) (c2 : Nat) (l2 : List UInt8) (y : Int) (w : World) (hr1 : RS w w.heap.size A1 n1 ∧ n1 ≤ 9223372036854775807) (hr2 : RB w w.heap.size A2 l2) (hn2 : l2.length ≤ 140737488351232) (hw : (Lit.int .u8 y).wf = true) (hM : ML w) :
    Calls Tryd.prog 10 #[.slice A1 n1 c1, .slice A2 l2.length c2, .int .u8 y] w fun e w' => e = .returned (.bool true) ∧ Below w.heap.size w w' := by
  have hb := bounds_u8 hw
  obtain ⟨b, rfl⟩ : ∃ b : UInt8, y = (b.toNat : Int) := ⟨UInt8.ofNat y.toNat, by rw [UInt8.toNat_ofNat']; omega⟩
  exact Places_core A1 A2 n1 c1 c2 l2 b w (Lib.hid hM) (Lib.hid hr1.1) (Lib.hid hr2) hr1.2 hn2
end Go.Proofs.YtmolacockfekpaaDoor
