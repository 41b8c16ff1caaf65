/-
  Layer 9 (number), the walks: the document's answer (colophonref09): Of, at every string: the value that the plain spec gives.
-/
import Derived.Test.YthndgekjccclnaaGreatDoorNumRefOf
import Derived.WalkKit
import Derived.WalkSpells
import Derived.WalkLawsBesides
import Derived.Deep.DeepFit
import Derived.Lib.Hide
namespace Go.Proofs.YthndgekjccclnaaGreatDoor
open Go.RowKit Num
set_option linter.unusedVariables false
set_option linter.unusedSimpArgs false

set_option maxRecDepth 100000 in
set_option maxHeartbeats 1000000 in
/-- what is no number -/
theorem RefOf_bad (s : ByteArray) (w : World) (n : Nat) (e : Int) (hq : e ≠ 0 ∨ (e = 0 ∧ n ≠ s.size))
    (HC : Hid (∀ (W : World) (g c : Nat), W.heap.size = g → Calls Tryz.prog 59 #[.slice (some ⟨g, 0, none⟩) s.size c, .int .i64 0] (Lib.bytesWorld W 5 s) fun e' w' => e' = .returned (.tuple #[.int .i64 n, .int .i64 e]) ∧ Lib.bytesWorld W 5 s = w')) :
    Calls Tryz.prog 96 #[.string s] w fun e w' => RefPost none e w' ∧ Below w.heap.size w w' := by
  have kc := fun (W : World) => Lib.run_convert_string_bytes (P := Tryz.prog) W 9 25 5 s Tryz.underlying9 Tryz.underlying25 Tryz.underlying5
  have hbad : (∃ hx : (e != 0) = true, (e == 0) = false) ∨ (e = 0 ∧ ((n : Int) != (s.size : Int)) = true ∧ (n != s.size) = true) := by
    rcases hq with h | ⟨h, hn⟩
    · exact .inl ⟨by simpa using h, by simpa using h⟩
    · exact .inr ⟨h, by rw [bne_iff_ne]; omega, by rw [bne_iff_ne]; exact hn⟩
  clear hq
  rcases hbad with ⟨h1, h2⟩ | ⟨rfl, h1, h2⟩
  all_goals
    go_enter Tryz.func96, Tryz.ntmps96
    go_wp2_with fail
    refine (HC.out _ _ _ (by simp)).mono ?_
    rintro e w1 ⟨rfl, rfl⟩
    clear kc
    have hres : PB (Lib.bytesWorld (w.alloc (.cells #[.bool false, .slice none 0 0, .int .i64 0] 131)) 5 s) w.heap.size (.bool false) (.slice none 0 0) (.int .i64 0) := by
      unfold PB
      rw [Lib.bytesWorld_at_old _ _ _ _ (by simp)]
      exact heap_alloc_new w _
    have hbw : Below w.heap.size w (Lib.bytesWorld (w.alloc (.cells #[.bool false, .slice none 0 0, .int .i64 0] 131)) 5 s) := bytes_below ((Below.refl _ w).alloc (Nat.le_refl _) _) (by simp) _ _
    have r0 := hres.c0
    have r1 := hres.c1
    have r2 := hres.c2
    have g0 := hres.fr 0
    have g1 := hres.fr 1
    have g2 := hres.fr 2
    have HBW := Lib.hid hbw
    clear hres hbw
    generalize Lib.bytesWorld (w.alloc (.cells #[.bool false, .slice none 0 0, .int .i64 0] 131)) 5 s = W1 at *
    go_wp2
    exact bodyPost_ret (v := .tuple #[.agg #[.bool false, .slice none 0 0, .int .i64 0], .bool false]) (by simp [results, Tryz.results96, go_sem, r0, r1, r2, g0, g1, g2]) rfl ⟨⟨false, none, 0, 0, 0, rfl⟩, below_set3 HBW.out _ _ _⟩

theorem RB.drop {w : World} {B b : Nat} {l : List UInt8} (h : RB w B (some ⟨b, 0, none⟩) l) (k : Nat) : RB w B (some ⟨b, k, none⟩) (l.drop k) := by
  rcases h with h | ⟨b', off', e, hb, hc⟩
  · subst h; exact .inl (by simp)
  · have e' := Option.some.inj e
    simp only [Addr.mk.injEq] at e'
    obtain ⟨rfl, rfl, -⟩ := e'
    refine .inr ⟨b, k, rfl, hb, fun j hj => ?_⟩
    rw [List.length_drop] at hj
    have := hc (k + j) (by omega)
    rw [Nat.zero_add] at this
    rw [this, List.getElem_drop]
theorem neg_notE {g : List UInt8} (hg : NegF g) : ∀ y ∈ g, (!isE y) = true := by
  rcases hg with e | e <;> subst e
  · intro y hy; cases hy
  · intro y hy
    have : y = 45 := by simpa using hy
    subst this; rfl
theorem mant_whole_form {g a f x : List UInt8} (hg : NegF g) (ha : Digs a) (hf : FracF f) (hx : ExpF x) : mantOf (g ++ (a ++ (f ++ x))) = g ++ (a ++ f) := by
  have h1 := takeWhile_all (p := fun c => !isE c) (r := a ++ (f ++ x)) (neg_notE hg)
  have h2 := (mant_form (x := x) ha hf hx).1
  unfold mantOf at h2 ⊢
  rw [h1.1, h2]
def powOfX (x : List UInt8) : Int × Bool := if x = [] then (0, true) else if 15 < (powDigs (x.drop 1)).length then (0, false) else (powVal (x.drop 1), true)
theorem powR_form {s r : List UInt8} (hs : SignF s) (hr : Digs r) : powR (decide (s = [45])) r = if 15 < (powDigs (s ++ r)).length then (0, false) else (powVal (s ++ r), true) := by
  have h1 : powDigs (s ++ r) = trimL r [48] := by unfold powDigs; rw [trim_sign hs hr]
  rw [(powVal_form hs hr).1, h1]
  unfold powR
  split
  · rfl
  · rw [decV_trim]
    rcases hs with k | k | k <;> subst k <;> rfl
theorem pow_bound (x : List UInt8) (hx : ExpF x) : -1000000000000000 ≤ (powOfX x).1 ∧ (powOfX x).1 ≤ 1000000000000000 := by
  unfold powOfX
  split
  · exact ⟨by decide, by decide⟩
  · split
    · exact ⟨by decide, by decide⟩
    · rename_i hl
      have hd := powDigs_form hx
      have := decV_lt (powDigs (x.drop 1)) hd 15 (by omega)
      show -1000000000000000 ≤ powVal (x.drop 1) ∧ powVal (x.drop 1) ≤ 1000000000000000
      unfold powVal
      split <;> omega

theorem RefOf_whole (s : ByteArray) (l : List UInt8) (w : World) (hl : s.data.toList = l) (hn : l.length ≤ 4294967280) (hk : checkN l 0 = (l.length, 0)) :
    Calls Tryz.prog 96 #[.string s] w fun e w' => RefPost (ofS l) e w' ∧ Below w.heap.size w w' := by
  obtain ⟨g, a, f, x, hg, ha, hf, hx, e⟩ := whole_form hk
  have hm : mantOf l = g ++ (a ++ f) := by rw [e]; exact mant_whole_form hg ha.2.1 hf hx
  have hst := stA_form hg ha.2.1 hf
  have hlen : l.length = (mantOf l).length + x.length := by rw [hm, e]; simp only [List.length_append]; omega
  have hs : s.size = l.length := by rw [← hl, list_len]
  have hdrop : ∀ c r, x = c :: r → l.drop ((mantOf l).length + 1) = r := by
    intro c r hxe
    rw [hm, e, hxe]
    have : g ++ (a ++ (f ++ c :: r)) = (g ++ (a ++ f) ++ [c]) ++ r := by simp
    rw [this, show (g ++ (a ++ f)).length + 1 = (g ++ (a ++ f) ++ [c]).length by simp only [List.length_append, List.length_cons, List.length_nil], List.drop_left]
  refine RefOf_good s l w hl (by omega) (by rw [e]; intro h; exact ha.1 (List.append_eq_nil_iff.1 (List.append_eq_nil_iff.1 h).2).1) (powOfX x) (pow_bound x hx) (ofS l) (Lib.hid ?_) (Lib.hid ?_) (Lib.hid ?_) (Lib.hid ?_)
  · rw [hm, hst.1, hst.2, e, of_form hg ha hf hx, (plain_form (r := a ++ (f ++ x)) hg (digs_head ha.1 ha.2.1 _)).2]
    split
    · rfl
    · unfold powOfX
      by_cases hx0 : x = []
      · subst hx0
        simp only [if_true]
        rw [if_neg (by decide)]
        rfl
      · rw [if_neg hx0]
        split
        · rfl
        · rfl
  · intro h
    have : x = [] := List.eq_nil_of_length_eq_zero (by omega)
    subst this; rfl
  · intro h
    rcases hx with hx | ⟨c, sg, r, hxe, hc, hsg, hr0, hr⟩
    · subst hx; simp at hlen; omega
    · have hd := hdrop c (sg ++ r) hxe
      have hxl : x.length = 1 + (sg ++ r).length := by rw [hxe]; simp only [List.length_cons]; omega
      have hrl : 0 < r.length := List.length_pos_iff.2 hr0
      have hsl : (sg ++ r).length = sg.length + r.length := List.length_append
      refine ⟨by omega, fun cc hcc W hW => ?_⟩
      have hRB := hW.drop ((mantOf l).length + 1)
      rw [hd] at hRB
      have hP : powOfX x = powR (decide (sg = [45])) r := by
        rw [powR_form hsg hr, hxe]
        unfold powOfX
        rw [if_neg (by simp)]
        rfl
      rw [hP, show l.length - ((mantOf l).length + 1) = (sg ++ r).length by omega]
      rcases hsg with k | k | k <;> subst k
      · obtain ⟨y, t, rfl⟩ : ∃ y t, r = y :: t := by
          cases r with
          | nil => exact absurd rfl hr0
          | cons y t => exact ⟨y, t, rfl⟩
        have h3 : (([] : List UInt8) ++ (y :: t)).length = t.length + 1 := rfl
        exact power_digit _ _ _ y t _ (Lib.hid rfl) W hRB (by omega) (by omega) (Lib.hid hr)
      · exact power_plus _ _ _ r _ (Lib.hid rfl) W hRB (by omega) (by simp only [List.length_cons, List.length_nil] at hsl; omega) (Lib.hid hr)
      · exact power_minus _ _ _ r _ (Lib.hid rfl) W hRB (by omega) (by simp only [List.length_cons, List.length_nil] at hsl; omega) (Lib.hid hr)
  · intro W gg c hgg
    have := refCheck_bytes s l hl W gg c hgg (by omega)
    rw [hk, ← hs] at this
    exact this
/-- colophonref09.Of. -/
theorem RefOf_any (s : ByteArray) (l : List UInt8) (hl : s.data.toList = l) (w : World) (hn : l.length ≤ 4294967280) :
    Calls Tryz.prog 96 #[.string s] w fun e w' => RefPost (ofS l) e w' ∧ Below w.heap.size w w' := by
  by_cases hk : checkN l 0 = (l.length, 0)
  · exact RefOf_whole s l w hl hn hk
  · have hs : s.size = l.length := by rw [← hl, list_len]
    rw [show ofS l = none by unfold ofS; rw [if_neg hk]]
    refine RefOf_bad s w (checkN l 0).1 (checkN l 0).2 ?_ (Lib.hid fun W g c hg => refCheck_bytes s l hl W g c hg (by omega))
    by_cases h0 : (checkN l 0).2 = 0
    · exact .inr ⟨h0, fun h => hk (Prod.ext (by rw [h, hs]) h0)⟩
    · exact .inl h0
end Go.Proofs.YthndgekjccclnaaGreatDoor
