/-
  Layer 9 (number), the walks: the helper Bring; bytes as text; decimal texts.
-/
import Derived.Test.YthndgekjccclnaaGreatDoorNumPower
import Derived.WalkKit
import Derived.WalkSpells
import Derived.WalkLawsBesides
import Derived.BigQuiet
import Derived.Deep.QuietTactic
import Derived.Deep.DeepCutAuto
import Derived.Deep.RegionHeld3
import Derived.Deep.RegionWith
import Derived.Deep.DeepFit
import Derived.Lib.Hide
import Derived.Laws.AppendOwn
import Derived.OwnWalk
import Derived.Lib.BufferRead
namespace Go.Proofs.YthndgekjccclnaaGreatDoor
open Go.RowKit Num
set_option linter.unusedVariables false
set_option linter.unusedSimpArgs false

def dig (c : UInt8) : UInt8 := UInt8.ofNat (48 + c.toNat % 10)
def digitsS (l : List UInt8) : List UInt8 := (l.take 30).map dig
theorem cell_one (w : World) (v : Value) (ty : TypeId) (hv : v.oneCell' = true := by rfl) : ∀ j u, [v][j]? = some u → (w.alloc (.cells #[v] ty)).cell? ((⟨w.heap.size, 0, none⟩ : Addr).add j) = some u := by
  intro j u hu
  cases j with
  | zero =>
    simp at hu; subst hu
    rw [show (⟨w.heap.size, 0, none⟩ : Addr).add 0 = ⟨w.heap.size, 0, none⟩ by simp [Addr.add], cell_of_row _ _ 0 _ _ _ (heap_alloc_new w _)]; rfl
  | succ j => simp at hu

/-- string(b) of a row of bytes -/
theorem conv_RB {w : World} {B : Nat} {A : Option Addr} {l : List UInt8} (h : RB w B A l) (c : Nat) : (convert 25 9 (.slice A l.length c)).run Tryz.prog w = .ok (.string (bs l)) w := by
  cases A with
  | none =>
    have : l = [] := by
      rcases h with h | ⟨_, _, h, _⟩
      · exact h
      · cases h
    subst this
    exact Lib.run_convert_nil_bytes w _ _ 5 c Tryz.underlying25 Tryz.underlying5 Tryz.underlying9
  | some a =>
    refine run_convert_bytes_back w _ _ 5 a c l Tryz.underlying25 Tryz.underlying5 Tryz.underlying9 (fun j hj => ?_)
    obtain ⟨b, off, e, hc⟩ := h.get j hj
    obtain rfl := Option.some.inj e
    rw [show (⟨b, off, none⟩ : Addr).add j = ⟨b, off + j, none⟩ by unfold Addr.add; split <;> simp_all]
    exact hc
theorem cellsOf_snoc (l : List UInt8) (x : UInt8) : cellsOf l ++ [.int .u8 (x.toNat : Int)] = cellsOf (l ++ [x]) := by simp [cellsOf]
/-- two strings joined -/
theorem cat_run (a b : List UInt8) (h : a.length + b.length ≤ 4294967281) (W : World) : (binOp .add 9 (.string (bs a)) (.string (bs b))).run Tryz.prog W = .ok (.string (bs (a ++ b))) W := by
  rw [binOp_string_add, run_string_add_sum W _ _ (by rw [bs_size, bs_size]; omega)]
  rw [show bs a ++ bs b = bs (a ++ b) from ByteArray.mk_append_mk _ _]

theorem bs_nil : bs (List.replicate 0 48) = ⟨#[]⟩ := rfl
theorem Bring_any (i n : Int) (w : World) (hi : -9223372036854775808 ≤ i ∧ i ≤ 9223372036854775807) (hn : 0 < n ∧ n ≤ 1000000) :
    Calls Tryz.prog 31 #[.int .i64 i, .int .i64 n] w fun e w' => e = .returned (.int .i64 (i % n)) ∧ w = w' := by
  have h0 : decide (n ≤ 0) = false := by simp; omega
  have h1 : i.tmod n < 0 → wrap64 (i.tmod n + n) = i % n := fun h => by
    have e := Int.tmod_eq_emod (a := i) (b := n)
    have h3 := Int.emod_lt_of_pos i hn.1
    have h4 := Int.emod_nonneg i (show n ≠ 0 by omega)
    split at e
    · omega
    · unfold wrap64; omega
  have h2 : 0 ≤ i.tmod n → i.tmod n = i % n := fun h => by
    have e := Int.tmod_eq_emod (a := i) (b := n)
    have h3 := Int.emod_lt_of_pos i hn.1
    split at e
    · omega
    · omega
  have H1 := Lib.hid h1
  have H2 := Lib.hid h2
  clear h1 h2
  go_enter Tryz.func31, Tryz.ntmps31
  go_wp2
  · go_ret
    exact ⟨by rw [H1.out (by assumption)]; rfl, rfl⟩
  · go_ret
    exact ⟨by rw [H2.out (by assumption)]; rfl, rfl⟩

def asc (n : Nat) : UInt8 := UInt8.ofNat (48 + n)
theorem asc_eq (n : Nat) : asc n = UInt8.ofNat (48 + n) := rfl
def textS (n : Nat) : List UInt8 := if n < 10 then [asc n] else textS (n / 10) ++ [asc (n % 10)]
termination_by n
decreasing_by omega
theorem textS_small {n : Nat} (h : n < 10) : textS n = [asc n] := by rw [textS, if_pos h]
theorem textS_great {n : Nat} (h : ¬ n < 10) : textS n = textS (n / 10) ++ [asc (n % 10)] := by rw [textS, if_neg h]
theorem textS_len (n d : Nat) (h : n < 10 ^ (d + 1)) : (textS n).length ≤ d + 1 := by
  induction d generalizing n with
  | zero => rw [textS_small (by omega)]; simp
  | succ d ih =>
    by_cases h' : n < 10
    · rw [textS_small h']; simp
    · rw [textS_great h', List.length_append]
      have := ih (n / 10) (by rw [Nat.pow_succ] at h; omega)
      simp; omega
theorem conv_at (z : Nat) (x : Int) (hz : z < 256) (hx : x = z) {W : World} {g : Nat} (hg : W.heap[g]? = some (.cells #[.int .u8 x] 5 (0, 0))) : (convert 25 9 (.slice (some ⟨g, 0, none⟩) 1 1)).run Tryz.prog W = .ok (.string (bs [UInt8.ofNat z])) W := by
  subst hx
  have hn : (UInt8.ofNat z).toNat = z := by rw [UInt8.toNat_ofNat']; omega
  refine conv_RB (l := [UInt8.ofNat z]) (B := g + 1) (.inr ⟨_, 0, rfl, by omega, fun j hj => ?_⟩) 1
  have hj' : j = 0 := by simpa using hj
  subst hj'
  rw [show (⟨g, 0 + 0, none⟩ : Addr) = ⟨g, 0, none⟩ from rfl, cell_of_row _ _ 0 _ _ _ hg]
  show some (Value.int .u8 (z : Int)) = some (.int .u8 ((UInt8.ofNat z).toNat : Int))
  rw [hn]
theorem conv_one (z : Nat) (x : Int) (hz : z < 256) (hx : x = z) (W : World) : (convert 25 9 (.slice (some ⟨W.heap.size, 0, none⟩) 1 1)).run Tryz.prog (W.alloc (.cells #[.int .u8 x] 5)) = .ok (.string (bs [UInt8.ofNat z])) (W.alloc (.cells #[.int .u8 x] 5)) := by
  subst hx
  have hn : (UInt8.ofNat z).toNat = z := by rw [UInt8.toNat_ofNat']; omega
  refine conv_RB (l := [UInt8.ofNat z]) (B := W.heap.size + 1) (.inr ⟨_, 0, rfl, by omega, fun j hj => ?_⟩) 1
  have hj' : j = 0 := by simpa using hj
  subst hj'
  rw [show (⟨W.heap.size, 0 + 0, none⟩ : Addr) = ⟨W.heap.size, 0, none⟩ from rfl, cell_of_row _ _ 0 _ _ _ (heap_alloc_new W _)]
  show some (Value.int .u8 (z : Int)) = some (.int .u8 ((UInt8.ofNat z).toNat : Int))
  rw [hn]
end Go.Proofs.YthndgekjccclnaaGreatDoor

