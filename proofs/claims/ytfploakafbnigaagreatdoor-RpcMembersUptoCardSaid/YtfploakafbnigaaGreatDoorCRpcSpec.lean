/-
  Layer 12 (rpc), in plain Lean: ids, messages, and what values say. No Go and no memory.
-/
import Derived.Test.YtfploakafbnigaaGreatDoorCPkValA
namespace Go.Proofs.YtfploakafbnigaaGreatDoor.Val
set_option linter.unusedVariables false
set_option linter.unusedSimpArgs false
namespace VT
def isList (t : VT) : Bool := decide (t.kind = 4) || decide (t.kind = 5)
def isNull (t : VT) : Bool := t.eqv nul
/-- an id, but for what else it holds -/
def idK (t : VT) : Bool := decide (t.kind = 3) || (decide (t.kind = 2) && t.numOf.2)
def isId (t : VT) : Bool := decide (t.check = 0) && t.idK
def sameT (a b : VT) : Bool := if a.kind = 3 then decide (a.text = b.text) else Num.same a.text.data.toList b.text.data.toList
def sameId (a b : VT) : Bool := a.isId && b.isId && decide (a.kind = b.kind) && a.sameT b
def rpcN : ByteArray := ⟨#[106, 115, 111, 110, 114, 112, 99]⟩
def methodN : ByteArray := ⟨#[109, 101, 116, 104, 111, 100]⟩
def paramsN : ByteArray := ⟨#[112, 97, 114, 97, 109, 115]⟩
def resultN : ByteArray := ⟨#[114, 101, 115, 117, 108, 116]⟩
def errorN : ByteArray := ⟨#[101, 114, 114, 111, 114]⟩
def codeN : ByteArray := ⟨#[99, 111, 100, 101]⟩
def messageN : ByteArray := ⟨#[109, 101, 115, 115, 97, 103, 101]⟩
def twoS : ByteArray := ⟨#[50, 46, 48]⟩
end VT
/-- a message -/
structure MT where
  kind : Int
  id : VT
  method : ByteArray
  has : Bool
  params : VT
  result : VT
  code : Int
  text : ByteArray
namespace MT
def nul : MT := ⟨0, .nul, .empty, false, .nul, .nul, 0, .empty⟩
def eqv (a b : MT) : Bool := decide (a.kind = b.kind) && a.id.eqv b.id && decide (a.method = b.method) && decide (a.has = b.has) && a.params.eqv b.params && a.result.eqv b.result && decide (a.code = b.code) && decide (a.text = b.text)
theorem eqv_refl (a : MT) : a.eqv a = true := by unfold eqv; simp [VT.eqv_refl]
/-- what the values hold together -/
def bulk (m : MT) : Nat := m.id.bulk + m.params.bulk + m.result.bulk + m.method.size + m.text.size
end MT
namespace VT
def askOku (t u : VT) : Bool := decide (u.kind = 3) && (!t.has idN || (t.getD idN).isId) && (!t.has paramsN || (t.getD paramsN).isList)
def askMu (t u : VT) : MT := ⟨if t.has idN then 1 else 2, t.getD idN, u.text, t.has paramsN, t.getD paramsN, .nul, 0, .empty⟩
def askOk (t : VT) : Bool := decide ((t.getD methodN).kind = 3) && (!t.has idN || (t.getD idN).isId) && (!t.has paramsN || (t.getD paramsN).isList)
def askM (t : VT) : MT := ⟨if t.has idN then 1 else 2, t.getD idN, (t.getD methodN).text, t.has paramsN, t.getD paramsN, .nul, 0, .empty⟩
def err (t : VT) : VT := t.getD errorN
def errOk (t : VT) : Bool := decide ((t.err.getD codeN).kind = 2) && (t.err.getD codeN).numOf.2 && decide ((t.err.getD messageN).kind = 3)
def ansOk (t : VT) : Bool := t.has idN && (t.has resultN != t.has errorN) && (if t.has resultN then (t.getD idN).isId else ((t.getD idN).isId || (t.getD idN).isNull) && t.errOk)
def ansM (t : VT) : MT := if t.has resultN then ⟨3, t.getD idN, .empty, false, .nul, t.getD resultN, 0, .empty⟩ else ⟨4, t.getD idN, .empty, false, .nul, .nul, (t.err.getD codeN).numOf.1, (t.err.getD messageN).text⟩
def ansMs (t : VT) : MT := if (t.has idN && (t.has resultN != t.has errorN)) = true then t.ansM else .nul
def headOk (t : VT) : Bool := decide (t.check = 0) && decide ((t.getD rpcN).kind = 3) && decide ((t.getD rpcN).text = twoS)
def msgOk (t : VT) : Bool := t.headOk && (if t.has methodN then t.askOk else t.ansOk)
def msgM (t : VT) : MT := if t.has methodN then t.askM else t.ansM
def readM (t : VT) : MT := if t.msgOk then t.msgM else .nul
def readE (t : VT) : Int := if t.msgOk then 0 else 120
theorem getD_none {t : VT} {x : ByteArray} (h : t.has x = false) : t.getD x = .nul := by
  unfold has at h
  unfold getD
  cases hg : t.get x with
  | none => rfl
  | some u => rw [hg] at h; cases h
theorem read_no {t : VT} (h : t.headOk = false) : t.readM = .nul ∧ t.readE = 120 := by
  unfold readM readE msgOk
  rw [h]
  exact ⟨rfl, rfl⟩
theorem read_ask {t : VT} (h : t.headOk = true) (hm : t.has methodN = true) : t.readM = (if t.askOku (t.getD methodN) = true then t.askMu (t.getD methodN) else .nul) ∧ t.readE = (if t.askOku (t.getD methodN) = true then 0 else 120) := by
  unfold readM readE msgOk msgM
  rw [h, hm]
  exact ⟨rfl, rfl⟩
theorem read_ans {t : VT} (h : t.headOk = true) (hm : t.has methodN = false) : t.readM = (if t.ansOk = true then t.ansMs else .nul) ∧ t.readE = (if t.ansOk = true then 0 else 120) := by
  unfold readM readE msgOk msgM
  rw [h, hm]
  refine ⟨?_, rfl⟩
  show (if t.ansOk = true then t.ansM else .nul) = _
  cases ha : t.ansOk
  · rfl
  · have : (t.has idN && (t.has resultN != t.has errorN)) = true := by
      unfold ansOk at ha
      rw [Bool.and_eq_true] at ha
      exact ha.1
    unfold ansMs
    rw [this]; rfl
/-- a kid of what may be may be -/
theorem get_kid {t u : VT} {x : ByteArray} (h : t.get x = some u) : ∃ k i tx n c m j, t = .mk k i tx n c m ∧ k = 5 ∧ j < n ∧ u = c j := by
  unfold get at h
  split at h
  · rename_i hk
    cases hi : lastIdx t.names x (min t.names.length t.n) with
    | none => rw [hi] at h; cases h
    | some i =>
      rw [hi] at h
      injection h with h
      have := (lastIdx_lt hi).1
      subst h
      cases t with
      | leaf => simp [n] at this
      | mk k is tx n c m => exact ⟨k, is, tx, n, c, m, i, rfl, hk, by simp only [VT.n] at this; omega, rfl⟩
  · cases h
theorem maxTo_get (f : Nat → Nat) (n j : Nat) (h : j < n) : f j ≤ maxTo f n := by
  induction n with
  | zero => omega
  | succ n ih =>
    unfold maxTo
    by_cases e : j = n
    · subst e; omega
    · have := ih (by omega); omega
theorem check_zero {t : VT} : t.check = 0 ↔ t.may = true ∧ t.depth ≤ 128 := by
  unfold check
  cases t.may
  · simp
  · by_cases h : 128 < t.depth
    · simp [h]
    · simp [h]; omega
theorem check_kid {k : Int} {i : Bool} {tx : ByteArray} {n : Nat} {c : Nat → VT} {m : List ByteArray} {j : Nat} (h : (VT.mk k i tx n c m).check = 0) (hj : j < n) : (c j).check = 0 := by
  rw [check_zero] at *
  obtain ⟨h1, h2⟩ := h
  have h3 : allTo (fun j => (c j).may) n = true := by
    have : (decide (0 ≤ k) && decide (k ≤ 5) && (!i || k == 1) && (tx.size == 0 || k == 2 || k == 3) && (n == 0 || k == 4 || k == 5) && (m.length == 0 || k == 5) && (!(k == 5) || m.length == n) && allTo (fun j => (c j).may) n) = true := h1
    rw [Bool.and_eq_true] at this
    exact this.2
  have h4 : maxTo (fun j => (c j).depth) n + 1 ≤ 128 := h2
  have := maxTo_get (fun j => (c j).depth) n j hj
  exact ⟨(allTo_iff _ _).1 h3 j hj, by omega⟩
end VT
end Go.Proofs.YtfploakafbnigaaGreatDoor.Val
