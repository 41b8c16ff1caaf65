/-
  Joined texts: MkBackPlain.
-/
import Derived.Test.YthndgekjccclnaaGreatDoorPkMkD
import Derived.Test.YthndgekjccclnaaGreatDoorPkOdP
namespace Go.Proofs.YthndgekjccclnaaGreatDoor
open Go.RowKit Val Num
set_option linter.unusedVariables false
set_option linter.unusedSimpArgs false
def rlenN : ByteArray := ⟨#[114, 97, 110, 103, 101, 76, 101, 110, 103, 116, 104]⟩
def xN : ByteArray := ⟨#[120]⟩
def rngT (sw : Bool) (a b c d : Int) : VT := if sw then obT [VT.endN, xN, VT.startN] [posT c d, txT ⟨#[121]⟩, posT a b] else rangeT a b c d
def edT (sw : Bool) (x : VT.Ed) : VT := if x.whole then obT [rlenN, VT.textN] [nmT ⟨#[57]⟩, txT x.text] else obT [rlenN, VT.textN, VT.rangeN] [nmT ⟨#[57]⟩, txT x.text, rngT sw x.a x.b x.c x.d]
def docT (ver : Int) (s : ByteArray) : VT := obT [VT.versionN, VT.uriN, xN] [nbT ver, txT s, txT ⟨#[122]⟩]
def backT (sw : Bool) (es : List VT) (doc : VT) : VT := if sw then obT [VT.changesN, xN, VT.tdN, VT.changesN] [txT ⟨#[111, 108, 100]⟩, lsT [], doc, lsT es] else obT [VT.changesN, VT.tdN] [lsT es, doc]
def Far (x : Int) : Prop := 0 ≤ x ∧ x ≤ 2147483647
theorem nb_num (v : Int) (h : 0 ≤ v ∧ v ≤ 9007199254740991) : (nbT v).numOf = (v, true) := by
  show Num.int (bs (numS v)).data.toList = _
  rw [show (bs (numS v)).data.toList = numS v from by simp [bs], int_numS, if_pos (by omega)]
theorem inR_ok (v m : Int) (h : 0 ≤ v ∧ v ≤ m) : VT.inR (v, true) m = true := by
  unfold VT.inR
  simp [h.1, h.2]
theorem pos_line (a b : Int) (ha : Far a) : (posT a b).wholeOk VT.lineN 2147483647 = true ∧ (posT a b).wholeN VT.lineN = a := by
  have h := nb_num a ⟨ha.1, by have := ha.2; omega⟩
  constructor
  · show (true && VT.inR (nbT a).numOf 2147483647) = true
    rw [h, inR_ok a 2147483647 ha]; rfl
  · show (nbT a).numOf.1 = a
    rw [h]
theorem pos_char (a b : Int) (hb : Far b) : (posT a b).wholeOk VT.charN 2147483647 = true ∧ (posT a b).wholeN VT.charN = b := by
  have h := nb_num b ⟨hb.1, by have := hb.2; omega⟩
  constructor
  · show (true && VT.inR (nbT b).numOf 2147483647) = true
    rw [h, inR_ok b 2147483647 hb]; rfl
  · show (nbT b).numOf.1 = b
    rw [h]
theorem rng_start (sw : Bool) (a b c d : Int) (ha : Far a) (hb : Far b) : (rngT sw a b c d).posOk VT.startN = true ∧ (rngT sw a b c d).posL VT.startN = a ∧ (rngT sw a b c d).posC VT.startN = b := by
  have h1 := pos_line a b ha
  have h2 := pos_char a b hb
  cases sw
  · refine ⟨?_, h1.2, h2.2⟩
    show (true && (posT a b).wholeOk VT.lineN 2147483647 && (posT a b).wholeOk VT.charN 2147483647) = true
    rw [h1.1, h2.1]; rfl
  · refine ⟨?_, h1.2, h2.2⟩
    show (true && (posT a b).wholeOk VT.lineN 2147483647 && (posT a b).wholeOk VT.charN 2147483647) = true
    rw [h1.1, h2.1]; rfl
theorem rng_end (sw : Bool) (a b c d : Int) (hc : Far c) (hd : Far d) : (rngT sw a b c d).posOk VT.endN = true ∧ (rngT sw a b c d).posL VT.endN = c ∧ (rngT sw a b c d).posC VT.endN = d := by
  have h1 := pos_line c d hc
  have h2 := pos_char c d hd
  cases sw
  · refine ⟨?_, h1.2, h2.2⟩
    show (true && (posT c d).wholeOk VT.lineN 2147483647 && (posT c d).wholeOk VT.charN 2147483647) = true
    rw [h1.1, h2.1]; rfl
  · refine ⟨?_, h1.2, h2.2⟩
    show (true && (posT c d).wholeOk VT.lineN 2147483647 && (posT c d).wholeOk VT.charN 2147483647) = true
    rw [h1.1, h2.1]; rfl
/-- an edit that may be told -/
def FarEd (x : VT.Ed) : Prop := (x.whole = true → x.a = 0 ∧ x.b = 0 ∧ x.c = 0 ∧ x.d = 0) ∧ Far x.a ∧ Far x.b ∧ Far x.c ∧ Far x.d
theorem rng_kind (sw : Bool) (a b c d : Int) : (rngT sw a b c d).kind = 5 := by cases sw <;> rfl
theorem ed_back (sw : Bool) (x : VT.Ed) (h : FarEd x) : (edT sw x).editOk = true ∧ (edT sw x).editOf = x := by
  obtain ⟨wh, a, b, c, d, tx⟩ := x
  obtain ⟨h0, ha, hb, hc, hd⟩ := h
  cases wh
  · have hs := rng_start sw a b c d ha hb
    have he := rng_end sw a b c d hc hd
    have hk := rng_kind sw a b c d
    have hbare : (edT sw ⟨false, a, b, c, d, tx⟩).bare = false := by
      show (!true || decide ((rngT sw a b c d).kind = 0)) = false
      rw [hk]; rfl
    constructor
    · unfold VT.editOk
      rw [hbare]
      show (true && (false || ((rngT sw a b c d).posOk VT.startN && (rngT sw a b c d).posOk VT.endN))) = true
      rw [hs.1, he.1]; rfl
    · unfold VT.editOf
      rw [hbare]
      show VT.Ed.mk false ((rngT sw a b c d).posL VT.startN) ((rngT sw a b c d).posC VT.startN) ((rngT sw a b c d).posL VT.endN) ((rngT sw a b c d).posC VT.endN) tx = _
      rw [hs.2.1, hs.2.2, he.2.1, he.2.2]
  · obtain ⟨rfl, rfl, rfl, rfl⟩ := h0 rfl
    exact ⟨rfl, rfl⟩
theorem back_chg (sw : Bool) (es : List VT) (ver : Int) (s : ByteArray) : (backT sw es (docT ver s)).chg = lsT es ∧ (backT sw es (docT ver s)).doc = docT ver s ∧ (backT sw es (docT ver s)).hasK VT.tdN 5 = true ∧ (backT sw es (docT ver s)).hasK VT.changesN 4 = true := by
  cases sw <;> exact ⟨rfl, rfl, rfl, rfl⟩
theorem back_ok (sw sw2 : Bool) (xs : List VT.Ed) (ver : Int) (s : ByteArray) (hx : ∀ x ∈ xs, FarEd x) (hn : xs.length ≤ 32) (hv : 0 ≤ ver ∧ ver ≤ 9007199254740991) (hs : 1 ≤ s.size ∧ s.size ≤ 256) :
    (backT sw2 (xs.map (edT sw)) (docT ver s)).changeOk = true ∧ (backT sw2 (xs.map (edT sw)) (docT ver s)).uri = s ∧ (backT sw2 (xs.map (edT sw)) (docT ver s)).doc.wholeN VT.versionN = ver ∧
      (backT sw2 (xs.map (edT sw)) (docT ver s)).chg.edits (backT sw2 (xs.map (edT sw)) (docT ver s)).chg.n = xs := by
  obtain ⟨e1, e2, e3, e4⟩ := back_chg sw2 (xs.map (edT sw)) ver s
  have hnum := nb_num ver hv
  have huri : (backT sw2 (xs.map (edT sw)) (docT ver s)).uri = s := by unfold VT.uri; rw [e2]; rfl
  have hk : ∀ j, j < (xs.map (edT sw)).length → ((lsT (xs.map (edT sw))).kids j).editOk = true ∧ ∃ x, xs[j]? = some x ∧ ((lsT (xs.map (edT sw))).kids j).editOf = x := by
    intro j hj
    have hj' : j < xs.length := by simpa using hj
    have e : (lsT (xs.map (edT sw))).kids j = edT sw xs[j] := by
      show (xs.map (edT sw)).getD j .leaf = _
      rw [List.getD_eq_getElem?_getD]
      simp [hj']
    have := ed_back sw xs[j] (hx _ (List.getElem_mem hj'))
    rw [e]
    exact ⟨this.1, xs[j], List.getElem?_eq_getElem hj', this.2⟩
  refine ⟨?_, huri, ?_, ?_⟩
  · unfold VT.changeOk VT.changeOk1 VT.uriOk
    rw [e1, e2, e3, e4, huri]
    have hall : VT.allTo (fun j => ((lsT (xs.map (edT sw))).kids j).editOk) (lsT (xs.map (edT sw))).n = true := (VT.allTo_iff _ _).2 fun j hj => (hk j hj).1
    rw [hall]
    have h1 : VT.lenOk s = true := by unfold VT.lenOk; simp [hs.1, hs.2]
    have h2 : (docT ver s).hasK VT.uriN 3 = true := rfl
    have h3 : (docT ver s).wholeOk VT.versionN 9007199254740991 = true := by
      show (true && VT.inR (nbT ver).numOf 9007199254740991) = true
      rw [hnum, inR_ok ver _ hv]; rfl
    have h4 : decide ((lsT (xs.map (edT sw))).n ≤ 32) = true := by
      rw [decide_eq_true_eq]
      show (xs.map (edT sw)).length ≤ 32
      simpa using hn
    rw [h1, h2, h3, h4]; rfl
  · rw [e2]
    show (nbT ver).numOf.1 = ver
    rw [hnum]
  · rw [e1]
    show (lsT (xs.map (edT sw))).edits (xs.map (edT sw)).length = xs
    unfold VT.edits
    apply List.ext_getElem?
    intro j
    by_cases hj : j < xs.length
    · obtain ⟨-, x, h1, h2⟩ := hk j (by simpa using hj)
      rw [h1]
      simp [hj, h2]
    · rw [List.getElem?_eq_none (by simp; omega), List.getElem?_eq_none (by omega)]
end Go.Proofs.YthndgekjccclnaaGreatDoor
