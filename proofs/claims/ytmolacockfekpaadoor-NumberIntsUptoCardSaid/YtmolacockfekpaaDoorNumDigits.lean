/-
  Layer 9 (number), the walks: the statements' own helpers: Bring, digits, noughts, text, part.
-/
import Derived.Test.YtmolacockfekpaaDoorNumPower
import Derived.WalkKit
import Derived.WalkSpells
import Derived.WalkLawsBesides
import Derived.BigQuiet
import Derived.Deep.QuietTactic
import Derived.Deep.DeepCutAuto
import Derived.Deep.RegionHeld3
import Derived.Deep.RegionWith
import Derived.Deep.DeepFit
import Derived.Lib.Hide
import Derived.Laws.AppendOwn
import Derived.OwnWalk
import Derived.Lib.BufferRead
namespace Go.Proofs.YtmolacockfekpaaDoor
open Go.RowKit Num
set_option linter.unusedVariables false
set_option linter.unusedSimpArgs false

def dig (c : UInt8) : UInt8 := UInt8.ofNat (48 + c.toNat % 10)
def digitsS (l : List UInt8) : List UInt8 := (l.take 30).map dig
theorem cell_one (w : World) (v : Value) (ty : TypeId) (hv : v.oneCell' = true := by rfl) : ∀ j u, [v][j]? = some u → (w.alloc (.cells #[v] ty)).cell? ((⟨w.heap.size, 0, none⟩ : Addr).add j) = some u := by
  intro j u hu
  cases j with
  | zero =>
    simp at hu; subst hu
    rw [show (⟨w.heap.size, 0, none⟩ : Addr).add 0 = ⟨w.heap.size, 0, none⟩ by simp [Addr.add], cell_of_row _ _ 0 _ _ _ (heap_alloc_new w _)]; rfl
  | succ j => simp at hu

/-- string(b) of a row of bytes -/
theorem conv_RB {w : World} {B : Nat} {A : Option Addr} {l : List UInt8} (h : RB w B A l) (c : Nat) : (convert 22 9 (.slice A l.length c)).run Tryd.prog w = .ok (.string (bs l)) w := by
  cases A with
  | none =>
    have : l = [] := by
      rcases h with h | ⟨_, _, h, _⟩
      · exact h
      · cases h
    subst this
    exact Lib.run_convert_nil_bytes w _ _ 5 c Tryd.underlying22 Tryd.underlying5 Tryd.underlying9
  | some a =>
    refine run_convert_bytes_back w _ _ 5 a c l Tryd.underlying22 Tryd.underlying5 Tryd.underlying9 (fun j hj => ?_)
    obtain ⟨b, off, e, hc⟩ := h.get j hj
    obtain rfl := Option.some.inj e
    rw [show (⟨b, off, none⟩ : Addr).add j = ⟨b, off + j, none⟩ by unfold Addr.add; split <;> simp_all]
    exact hc
theorem cellsOf_snoc (l : List UInt8) (x : UInt8) : cellsOf l ++ [.int .u8 (x.toNat : Int)] = cellsOf (l ++ [x]) := by simp [cellsOf]
theorem map_take_snoc (l : List UInt8) (p : Nat) (h : p < l.length) : (l.take (p + 1)).map dig = (l.take p).map dig ++ [dig l[p]] := by rw [take_snoc' l p h, List.map_append]; rfl
theorem dig_toNat (c : UInt8) : ((dig c).toNat : Int) = 48 + (c.toNat : Int) % 10 := by
  unfold dig
  rw [UInt8.toNat_ofNat']
  have := c.toNat_lt
  omega

set_option maxRecDepth 100000 in
set_option maxHeartbeats 1000000 in
theorem digs_any (A : Option Addr) (c : Nat) (l : List UInt8) (w : World) (hr : RB w w.heap.size A l) (hn : l.length ≤ 9223372036854775807) :
    Calls Tryd.prog 21 #[.slice A l.length c] w fun e w' => e = .returned (.string (bs (digitsS l))) ∧ Below w.heap.size w w' := by
  obtain ⟨i0, hi, hz0, hz1, hz2⟩ := info_parts info5u
  have HR := Lib.hid hr
  have HD : Hid (digitsS l = (l.take 30).map dig) := Lib.hid rfl
  clear hr
  go_enter Tryd.func21, Tryd.ntmps21
  go_wp2
  go_loopg [3, 4] (min l.length 30) (fun k v3 v4 wr => ∃ p : Nat, p + k = min l.length 30 ∧ v4 = .int .i64 p ∧ Hid (wr.ownsRow w.heap.size 5 1 v3 p (cellsOf ((l.take p).map dig))) ∧ Hid (Below w.heap.size w wr))
  case atStart => exact ⟨0, by omega, rfl, Lib.hid (World.ownsRow_nil _ _ _ _), Lib.hid (Below.refl _ _)⟩
  case round =>
    obtain ⟨p, hk, rfl, HO, HB⟩ := hrel
    have HK := Lib.hid hk
    have hp30 : p ≤ 30 := by omega
    clear hk
    by_cases hp : p < min l.length 30
    · have hpl : p < l.length := by omega
      have hp' : p < 30 := by omega
      have e1 : decide ((p : Int) < (l.length : Int)) = true := by simp; omega
      have e2 : decide ((p : Int) < 30) = true := by simp; omega
      obtain ⟨b, off, rfl, hc⟩ := (HR.out.on HB.out).get p hpl
      have HE := Lib.hid (map_take_snoc l p hpl)
      have HX := Lib.hid (dig_toNat l[p])
      have hz : (l[p].toNat : Int) < 256 := by have := l[p].toNat_lt; omega
      have hzz : (0 : Int) ≤ l[p].toNat := by omega
      generalize l[p] = y at *
      generalize y.toNat = z at *
      clear hp
      go_wp2_with (at_builtin; refine wpList_append_own _ rfl _ _ 22 rfl w.heap.size 5 i0 (.int .u8 0) 1 1 Tryd.underlying22 hi hz0 hz1 hz2 rfl (by decide) _ _ _ rfl (HO.out.alloc _) ⟨wr.heap.size, 0, none⟩ 1 1 [.int .u8 (48 + (z : Int) % 10)] rfl rfl (cell_one _ _ _) (fun x hx => by simp at hx; subst hx; rfl) (by unfold maxLen; omega) (by omega) (by simp; have := HB.out.size; omega) ?_; intro v' w3 hown hgrow _)
      have HO3 := Lib.hid hown
      have HG3 := Lib.hid hgrow
      clear hown hgrow
      go_wp2
      go_roundg (gk - 1)
      case measure => have := HK.out; omega
      case rel =>
        refine ⟨p + 1, by have := HK.out; omega, by go_num, Lib.hid ?_, Lib.hid ?_⟩
        · rw [HE.out, ← cellsOf_snoc, HX.out]; exact HO3.out
        · exact (HB.out.alloc HB.out.size _).grown HG3.out (by simp; have := HB.out.size; omega) (fun q hq => (HO.out.lt q hq).1)
    · have hpe : l.take p = l.take 30 := by
        by_cases h : l.length ≤ 30
        · rw [List.take_of_length_le (by have := HK.out; omega), List.take_of_length_le h]
        · rw [show p = 30 by have := HK.out; omega]
      have h1 := HO.out
      rw [hpe, ← HD.out] at h1
      obtain ⟨A', c', rfl, hrb⟩ := RB_of_own h1
      have hcv := conv_RB hrb c'
      have HC := Lib.hid h1
      clear h1 hpe hrb HO
      by_cases hl : p < l.length
      · have e1 : decide ((p : Int) < (l.length : Int)) = true := by simp; omega
        have e2 : decide ((p : Int) < 30) = false := by simp; omega
        clear hp
        go_wp2
        go_ret
        exact ⟨rfl, HB.out⟩
      · have e1 : decide ((p : Int) < (l.length : Int)) = false := by simp; omega
        clear hp
        go_wp2
        go_ret
        exact ⟨rfl, HB.out⟩

/-- two strings joined -/
theorem cat_run (a b : List UInt8) (h : a.length + b.length ≤ 4294967281) (W : World) : (binOp .add 9 (.string (bs a)) (.string (bs b))).run Tryd.prog W = .ok (.string (bs (a ++ b))) W := by
  rw [binOp_string_add, run_string_add_sum W _ _ (by rw [bs_size, bs_size]; omega)]
  rw [show bs a ++ bs b = bs (a ++ b) from ByteArray.mk_append_mk _ _]

theorem bs_nil : bs (List.replicate 0 48) = ⟨#[]⟩ := rfl
set_option maxHeartbeats 1000000 in
theorem noughts_any (n : Nat) (w : World) (hn : n ≤ 1000) :
    Calls Tryd.prog 23 #[.int .i64 n] w fun e w' => e = .returned (.string (bs (List.replicate n 48))) ∧ w = w' := by
  go_enter Tryd.func23, Tryd.ntmps23
  go_wp2
  go_loopg [3, 4] n (fun k v3 v4 wr => ∃ p : Nat, p + k = n ∧ v4 = .int .i64 p ∧ v3 = .string (bs (List.replicate p 48)) ∧ w = wr)
  case atStart => exact ⟨0, by omega, rfl, rfl, rfl⟩
  case round =>
    obtain ⟨p, hk, rfl, rfl, rfl⟩ := hrel
    have HK := Lib.hid hk
    by_cases hp : p < n
    · have e1 : decide ((p : Int) < (n : Int)) = true := by simp; omega
      have hcat : (bs (List.replicate p 48)).size + (ByteArray.mk #[48]).size ≤ 9223372036854775807 := by rw [bs_size, List.length_replicate, show (ByteArray.mk #[48]).size = 1 from rfl]; omega
      have HA : Hid (bs (List.replicate p 48) ++ ByteArray.mk #[48] = bs (List.replicate (p + 1) 48)) := Lib.hid (by rw [List.replicate_succ']; exact ByteArray.mk_append_mk _ _)
      have hp1 : p ≤ 1000 := by omega
      clear hk
      go_wp2
      go_roundg (gk - 1)
      case measure => have := HK.out; omega
      case rel => exact ⟨p + 1, by have := HK.out; omega, by go_num, by rw [← HA.out], rfl⟩
    · obtain rfl : p = n := by omega
      clear hk hp
      go_wp2
      go_ret
      exact ⟨rfl, rfl⟩

theorem Bring_any (i n : Int) (w : World) (hi : -9223372036854775808 ≤ i ∧ i ≤ 9223372036854775807) (hn : 0 < n ∧ n ≤ 1000000) :
    Calls Tryd.prog 20 #[.int .i64 i, .int .i64 n] w fun e w' => e = .returned (.int .i64 (i % n)) ∧ w = w' := by
  have h0 : decide (n ≤ 0) = false := by simp; omega
  have h1 : i.tmod n < 0 → wrap64 (i.tmod n + n) = i % n := fun h => by
    have e := Int.tmod_eq_emod (a := i) (b := n)
    have h3 := Int.emod_lt_of_pos i hn.1
    have h4 := Int.emod_nonneg i (show n ≠ 0 by omega)
    split at e
    · omega
    · unfold wrap64; omega
  have h2 : 0 ≤ i.tmod n → i.tmod n = i % n := fun h => by
    have e := Int.tmod_eq_emod (a := i) (b := n)
    have h3 := Int.emod_lt_of_pos i hn.1
    split at e
    · omega
    · omega
  have H1 := Lib.hid h1
  have H2 := Lib.hid h2
  clear h1 h2
  go_enter Tryd.func20, Tryd.ntmps20
  go_wp2
  · go_ret
    exact ⟨by rw [H1.out (by assumption)]; rfl, rfl⟩
  · go_ret
    exact ⟨by rw [H2.out (by assumption)]; rfl, rfl⟩

def asc (n : Nat) : UInt8 := UInt8.ofNat (48 + n)
theorem asc_eq (n : Nat) : asc n = UInt8.ofNat (48 + n) := rfl
def textS (n : Nat) : List UInt8 := if n < 10 then [asc n] else textS (n / 10) ++ [asc (n % 10)]
termination_by n
decreasing_by omega
theorem textS_small {n : Nat} (h : n < 10) : textS n = [asc n] := by rw [textS, if_pos h]
theorem textS_great {n : Nat} (h : ¬ n < 10) : textS n = textS (n / 10) ++ [asc (n % 10)] := by rw [textS, if_neg h]
theorem textS_len (n d : Nat) (h : n < 10 ^ (d + 1)) : (textS n).length ≤ d + 1 := by
  induction d generalizing n with
  | zero => rw [textS_small (by omega)]; simp
  | succ d ih =>
    by_cases h' : n < 10
    · rw [textS_small h']; simp
    · rw [textS_great h', List.length_append]
      have := ih (n / 10) (by rw [Nat.pow_succ] at h; omega)
      simp; omega
theorem conv_at (z : Nat) (x : Int) (hz : z < 256) (hx : x = z) {W : World} {g : Nat} (hg : W.heap[g]? = some (.cells #[.int .u8 x] 5 (0, 0))) : (convert 22 9 (.slice (some ⟨g, 0, none⟩) 1 1)).run Tryd.prog W = .ok (.string (bs [UInt8.ofNat z])) W := by
  subst hx
  have hn : (UInt8.ofNat z).toNat = z := by rw [UInt8.toNat_ofNat']; omega
  refine conv_RB (l := [UInt8.ofNat z]) (B := g + 1) (.inr ⟨_, 0, rfl, by omega, fun j hj => ?_⟩) 1
  have hj' : j = 0 := by simpa using hj
  subst hj'
  rw [show (⟨g, 0 + 0, none⟩ : Addr) = ⟨g, 0, none⟩ from rfl, cell_of_row _ _ 0 _ _ _ hg]
  show some (Value.int .u8 (z : Int)) = some (.int .u8 ((UInt8.ofNat z).toNat : Int))
  rw [hn]
theorem conv_one (z : Nat) (x : Int) (hz : z < 256) (hx : x = z) (W : World) : (convert 22 9 (.slice (some ⟨W.heap.size, 0, none⟩) 1 1)).run Tryd.prog (W.alloc (.cells #[.int .u8 x] 5)) = .ok (.string (bs [UInt8.ofNat z])) (W.alloc (.cells #[.int .u8 x] 5)) := by
  subst hx
  have hn : (UInt8.ofNat z).toNat = z := by rw [UInt8.toNat_ofNat']; omega
  refine conv_RB (l := [UInt8.ofNat z]) (B := W.heap.size + 1) (.inr ⟨_, 0, rfl, by omega, fun j hj => ?_⟩) 1
  have hj' : j = 0 := by simpa using hj
  subst hj'
  rw [show (⟨W.heap.size, 0 + 0, none⟩ : Addr) = ⟨W.heap.size, 0, none⟩ from rfl, cell_of_row _ _ 0 _ _ _ (heap_alloc_new W _)]
  show some (Value.int .u8 (z : Int)) = some (.int .u8 ((UInt8.ofNat z).toNat : Int))
  rw [hn]
set_option maxRecDepth 100000 in
set_option maxHeartbeats 1000000 in
theorem text_any (n : Nat) (w : World) (hn : n ≤ 9223372036854775807) :
    Calls Tryd.prog 22 #[.int .i64 n] w fun e w' => e = .returned (.string (bs (textS n))) ∧ Below w.heap.size w w' := by
  induction n using Nat.strongRecOn generalizing w with
  | ind n ih =>
  by_cases h : n < 10
  · have h0 : decide ((n : Int) < 10) = true := by simp; omega
    rw [textS_small h]
    have hcv := conv_one (48 + n) (48 + (n : Int)) (by omega) (by omega)
    rw [← asc_eq] at hcv
    clear ih
    go_enter Tryd.func22, Tryd.ntmps22
    go_wp2
    go_ret
    exact ⟨rfl, (Below.refl _ _).alloc (Nat.le_refl _) _⟩
  · have h0 : decide ((n : Int) < 10) = false := by simp; omega
    have IH := Lib.hid (fun (x : Int) W (hx : x = ((n / 10 : Nat) : Int)) => hx ▸ ih (n / 10) (by omega) W (by omega))
    rw [textS_great h]
    have hcv := conv_one (48 + n % 10) (48 + (n : Int) % 10) (by omega) (by omega)
    rw [← asc_eq] at hcv
    have q1 : IntKind.i64.wrap ((n : Int) / 10) = (n : Int) / 10 := wrap_small _ (by omega) (by omega)
    have q2 : (n : Int).tmod 10 = (n : Int) % 10 := Int.tmod_eq_emod_of_nonneg (by omega)
    have q3 : IntKind.i64.wrap (48 + (n : Int) % 10) = 48 + (n : Int) % 10 := wrap_small _ (by omega) (by omega)
    have q4 : IntKind.u8.wrap (48 + (n : Int) % 10) = 48 + (n : Int) % 10 := by show (48 + (n : Int) % 10) % 256 = _; omega
    have hcd : ∀ W : World, (convert 22 9 (.slice (some ⟨W.heap.size, 0, none⟩) 1 1)).run Tryd.prog (W.alloc (.cells #[.int .u8 (48 + (n : Int) % 10)] 5)).drew = .ok (.string (bs [asc (n % 10)])) (W.alloc (.cells #[.int .u8 (48 + (n : Int) % 10)] 5)).drew := fun W => conv_at (48 + n % 10) (48 + (n : Int) % 10) (by omega) (by omega) (by exact heap_alloc_new W _)
    have hcat : (bs (textS (n / 10))).size + (bs [asc (n % 10)]).size ≤ 9223372036854775807 := by
      rw [bs_size, bs_size]
      have := textS_len (n / 10) 18 (by omega)
      simp only [List.length_cons, List.length_nil]; omega
    have HA : Hid (bs (textS (n / 10)) ++ bs [asc (n % 10)] = bs (textS (n / 10) ++ [asc (n % 10)])) := Lib.hid (ByteArray.mk_append_mk _ _)
    have IHK : Hid (∀ (x : Int) (W : World) (g : Nat) (hx : x = ((n / 10 : Nat) : Int)) (hg : W.heap[g]? = some (.cells #[.int .u8 (48 + (n : Int) % 10)] 5 (0, 0))), Calls Tryd.prog 22 #[.int .i64 x] W fun e w' => e = .returned (.string (bs (textS (n / 10)))) ∧ Hid (Below W.heap.size W w') ∧ (convert 22 9 (.slice (some ⟨g, 0, none⟩) 1 1)).run Tryd.prog w' = .ok (.string (bs [asc (n % 10)])) w') := by
      refine Lib.hid fun x W g hx hg => (IH.out x W hx).mono ?_
      rintro e w' ⟨rfl, hb⟩
      refine ⟨rfl, Lib.hid hb, ?_⟩
      have hg' := (hb.block g (Array.getElem?_eq_some_iff.1 hg).1).trans hg
      exact conv_at (48 + n % 10) (48 + (n : Int) % 10) (by omega) (by omega) hg'
    clear ih
    go_enter Tryd.func22, Tryd.ntmps22
    go_upto_region 3 with fail
    go_region_with (go_at_call 22; first
      | (refine (IHK.out _ _ w.heap.size (by first | omega | (rw [Int.tdiv_eq_ediv_of_nonneg (by omega)]; omega)) (by exact heap_alloc_new _ _)).mono ?_; rintro e w' ⟨rfl, hb, hcv'⟩)
      | (refine (IH.out _ _ (by first | omega | (rw [Int.tdiv_eq_ediv_of_nonneg (by omega)]; omega))).mono ?_; rintro e w' ⟨rfl, hb⟩))
    all_goals go_wp2
    all_goals go_ret
    all_goals first
      | exact ⟨by rw [HA.out]; rfl, (((Below.refl w.heap.size w).drew).trans hb).alloc (by exact hb.size) _⟩
      | exact ⟨by rw [HA.out]; rfl, (((Below.refl w.heap.size w).alloc (Nat.le_refl _) _).drew).trans (hb.out.mono (show w.heap.size ≤ _ by simp))⟩
end Go.Proofs.YtmolacockfekpaaDoor
