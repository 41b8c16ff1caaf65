/-
  Joined texts: ValCopy ValEqual ValRefGet ValClone ValPCopy ValGet.
-/
import Derived.Test.YtfploakafbnigaaGreatDoorCPkValA
import Derived.Test.YtfploakafbnigaaGreatDoorWLast
import Derived.WalkSpells
import Derived.WalkLawsBesides
import Derived.BigQuiet
import Derived.Deep.QuietTactic
import Derived.Deep.LoopGhost
import Derived.Deep.AppendLies
import Derived.Deep.DeepFit
import Derived.StillTailTactics
import Derived.Lib.LazyBuf
namespace Go.Proofs.YtfploakafbnigaaGreatDoor
open Go.RowKit Val Go.Proofs.YtfploakafbnigaaGreatDoorW.PrintLast
set_option linter.unusedVariables false
set_option linter.unusedSimpArgs false
/-- what the drawn region of the loop reads -/
structure CpS (g1 g3 b off n cap p : Nat) (ov e0 e1 e2 e3 e4 : Value) (w : World) : Prop where
  s0 : w.cell? ⟨g3, 3, none⟩ = some ov
  s1 : w.cell? ⟨g1, 3, none⟩ = some (.slice (some ⟨b, off, none⟩) n cap)
  s2 : w.cell? ⟨b, off + p * 5, none⟩ = some e0
  s3 : w.cell? ⟨b, off + p * 5 + 1, none⟩ = some e1
  s4 : w.cell? ⟨b, off + p * 5 + 2, none⟩ = some e2
  s5 : w.cell? ⟨b, off + p * 5 + 3, none⟩ = some e3
  s6 : w.cell? ⟨b, off + p * 5 + 4, none⟩ = some e4
theorem CpS.same {g1 g3 b off n cap p : Nat} {ov e0 e1 e2 e3 e4 : Value} {w w' : World} (h : CpS g1 g3 b off n cap p ov e0 e1 e2 e3 e4 w) (h1 : w'.heap[g1]? = w.heap[g1]?) (h3 : w'.heap[g3]? = w.heap[g3]?) (hb : w'.heap[b]? = w.heap[b]?) :
    CpS g1 g3 b off n cap p ov e0 e1 e2 e3 e4 w' := by
  have k1 : ∀ o, w'.cell? ⟨g1, o, none⟩ = w.cell? ⟨g1, o, none⟩ := fun o => World.cell?_of_block (w := w) h1
  have k3 : ∀ o, w'.cell? ⟨g3, o, none⟩ = w.cell? ⟨g3, o, none⟩ := fun o => World.cell?_of_block (w := w) h3
  have kb : ∀ o, w'.cell? ⟨b, o, none⟩ = w.cell? ⟨b, o, none⟩ := fun o => World.cell?_of_block (w := w) hb
  exact ⟨(k3 _).trans h.s0, (k1 _).trans h.s1, (kb _).trans h.s2, (kb _).trans h.s3, (kb _).trans h.s4, (kb _).trans h.s5, (kb _).trans h.s6⟩
theorem CpS.on {g1 g3 b off n cap p : Nat} {ov e0 e1 e2 e3 e4 : Value} {w w' : World} (h : CpS g1 g3 b off n cap p ov e0 e1 e2 e3 e4 w) (hb : Below w.heap.size w w') : CpS g1 g3 b off n cap p ov e0 e1 e2 e3 e4 w' :=
  h.same (hb.block _ (World.block_lt_of_cell? w _ h.s1)) (hb.block _ (World.block_lt_of_cell? w _ h.s0)) (hb.block _ (World.block_lt_of_cell? w _ h.s2))
/-- the loop's memory: v's box, the result's place, out; the copies made so far -/
structure CpR (w : World) (bx zz : Array Value) (k : Int) (i : Bool) (x : ByteArray) (c : Nat → VT) (p : Nat) (ov : Value) (xs : List Value) (g2 g3 : Nat) (W : World) : Prop where
  box : W.heap[w.heap.size]? = some (.cells bx 25 (0, 0))
  res : W.heap[g2]? = some (.cells zz 25 (0, 0))
  out : BX W g3 (.int .i64 k) (.bool i) (.string x) ov (.slice none 0 0)
  below : Below w.heap.size w W
  own : W.ownsRow (w.heap.size + 3) 25 5 ov p xs
  row : VR W (fun b => w.heap.size + 3 ≤ b ∧ b < W.heap.size ∧ ov.ownBlock ≠ some b) xs p c
  size : w.heap.size + 3 ≤ W.heap.size
theorem CpR.on {w : World} {bx zz : Array Value} {k : Int} {i : Bool} {x : ByteArray} {c : Nat → VT} {p : Nat} {ov : Value} {xs : List Value} {g2 g3 : Nat} {W W' : World} (h : CpR w bx zz k i x c p ov xs g2 g3 W) (hb : Below W.heap.size W W') :
    CpR w bx zz k i x c p ov xs g2 g3 W' where
  box := (hb.block _ (Array.getElem?_eq_some_iff.1 h.box).1).trans h.box
  res := (hb.block _ (Array.getElem?_eq_some_iff.1 h.res).1).trans h.res
  out := h.out.on hb
  below := h.below.trans (hb.mono h.below.size)
  own := own_on h.own hb
  row := h.row.same (below_same hb (fun b hb => hb.2.1)) (fun b hb' => ⟨hb'.1, Nat.lt_of_lt_of_le hb'.2.1 hb.size, hb'.2.2⟩)
  size := Nat.le_trans h.size hb.size
theorem own_ne {w : World} {base e size n g : Nat} {v : Value} {xs : List Value} (h : w.ownsRow base e size v n xs) (hg : g < base) : some g ≠ v.ownBlock := fun e => by
  have := (h.lt g e.symm).1
  omega
/-- behind the append: all but out's field -/
theorem CpR.grown {w : World} {bx zz : Array Value} {k : Int} {i : Bool} {x : ByteArray} {c : Nat → VT} {p : Nat} {ov : Value} {xs : List Value} {g2 g3 g cap : Nat} {W W' : World} {v0 v1 v2 v3 v4 : Value} (h : CpR w bx zz k i x c p ov xs g2 g3 W)
    (h2 : w.heap.size + 1 = g2) (h3 : w.heap.size + 1 + 1 = g3)
    (hv : VAL W (fun b => w.heap.size + 3 ≤ b ∧ b < W.heap.size ∧ ov.ownBlock ≠ some b) (c p) (.agg #[v0, v1, v2, v3, v4])) (hown : W'.ownsRow (w.heap.size + 3) 25 5 (.slice (some ⟨g, 0, none⟩) (p + 1) cap) (p + 1) (xs ++ [v0, v1, v2, v3, v4]))
    (hg : W.grownBy W' ov.ownBlock) (hat : ov.ownBlock = some g ∨ g = W.heap.size) (hlt : g < W'.heap.size) :
    CpR w bx zz k i x c (p + 1) (.slice (some ⟨g, 0, none⟩) (p + 1) cap) (xs ++ [v0, v1, v2, v3, v4]) g2 g3 (W'.setCell ⟨g3, 3, none⟩ (.slice (some ⟨g, 0, none⟩) (p + 1) cap)) := by
  have hs : ∀ b, b < w.heap.size + 3 → W'.heap[b]? = W.heap[b]? := fun b hb => hg.block b (by have := h.size; omega) (own_ne h.own hb)
  have hgge : w.heap.size + 3 ≤ g := (hown.lt g rfl).1
  have hsz : ∀ u, (W'.setCell ⟨g3, 3, none⟩ u).heap.size = W'.heap.size := fun u => by simp [World.setCell]
  have hfar : ∀ u b, b ≠ g3 → (W'.setCell ⟨g3, 3, none⟩ u).heap[b]? = W'.heap[b]? := fun u b hb => Below.heap_setCell _ _ _ _ hb
  refine ⟨?_, ?_, ?_, ?_, own_far hown _ (by show g3 < _; omega), ?_, ?_⟩
  · rw [hfar _ _ (by omega), hs _ (by omega)]; exact h.box
  · rw [hfar _ _ (by omega), hs _ (by omega)]; exact h.res
  · exact (BX.same h.out (hs g3 (by omega))).set3 _
  · exact (h.below.grown hg h.below.size (fun k hk => by have := (h.own.lt k hk).1; omega)).setCell (by show w.heap.size ≤ g3; omega) _
  · refine ((h.row.snoc hv).same (Same.trans (grown_same hg (fun b hb => ⟨hb.2.1, fun e => hb.2.2 e.symm⟩)) (set_same _ (fun b hb => by show b ≠ g3; omega))) (fun b hb => ⟨hb.1, ?_, ?_⟩))
    · rw [hsz]; exact Nat.lt_of_lt_of_le hb.2.1 hg.size
    · intro e
      have e' : g = b := by simpa [Value.ownBlock] using e
      rcases hat with h4 | h4
      · exact hb.2.2 (by rw [h4, e'])
      · have := hb.2.1; omega
  · rw [hsz]; exact Nat.le_trans h.size hg.size
theorem al3_0 (w : World) (a b c : Obj) : (((w.alloc a).alloc b).alloc c).heap[w.heap.size]? = some a :=
  (Below.heap_alloc _ _ _ (by simp; omega)).trans ((Below.heap_alloc _ _ _ (by simp)).trans (heap_alloc_new w a))
theorem al3_1 (w : World) (a b c : Obj) : (((w.alloc a).alloc b).alloc c).heap[w.heap.size + 1]? = some b := by
  have := heap_alloc_new (w.alloc a) b
  rw [show (w.alloc a).heap.size = w.heap.size + 1 by simp] at this
  exact (Below.heap_alloc _ _ _ (by simp)).trans this
theorem al3_2 (w : World) (a b c : Obj) : (((w.alloc a).alloc b).alloc c).heap[w.heap.size + 2]? = some c := by
  have := heap_alloc_new ((w.alloc a).alloc b) c
  rwa [show ((w.alloc a).alloc b).heap.size = w.heap.size + 2 by simp] at this
theorem al3_below (w : World) (a b c : Obj) : Below w.heap.size w (((w.alloc a).alloc b).alloc c) :=
  (((Below.refl _ _).alloc (Nat.le_refl _) _).alloc (by simp) _).alloc (by simp; omega) _
/-- a copy, whose rows are its own -/
structure OwnV (B : Nat) (w : World) (t : VT) (v : Value) : Prop where
  own : ∃ k i x n c m A cap A' cap' xs, t = .mk k i x n c m ∧ v = .agg #[.int .i64 k, .bool i, .string x, .slice A n cap, .slice A' m.length cap'] ∧ (-9223372036854775808 ≤ k ∧ k ≤ 9223372036854775807) ∧
    w.ownsRow B 25 5 (.slice A n cap) n xs ∧ w.ownsRow B 9 1 (.slice A' m.length cap') m.length (m.map .string) ∧
    VR w (fun b => B ≤ b ∧ b < w.heap.size ∧ (Value.slice A n cap).ownBlock ≠ some b ∧ (Value.slice A' m.length cap').ownBlock ≠ some b) xs n c ∧ (∀ b, (Value.slice A n cap).ownBlock = some b → (Value.slice A' m.length cap').ownBlock ≠ some b)
def CopiedO (t : VT) (w : World) (e : Ending) (w' : World) : Prop := ∃ v', e = .returned v' ∧ VAL w' (New w w') t v' ∧ Below w.heap.size w w' ∧ OwnV w.heap.size w' t v'
theorem CopiedO.any {t : VT} {w w' : World} {e : Ending} (h : CopiedO t w e w') : Copied t w e w' := by
  obtain ⟨v', h1, h2, h3, -⟩ := h
  exact ⟨v', h1, h2, h3⟩
end Go.Proofs.YtfploakafbnigaaGreatDoor
namespace Go.Proofs.YtfploakafbnigaaGreatDoor
open Go.RowKit Val
set_option linter.unusedVariables false
set_option linter.unusedSimpArgs false
theorem eqv_mk (k : Int) (i : Bool) (x : ByteArray) (n : Nat) (c : Nat → VT) (m : List ByteArray) (k' : Int) (i' : Bool) (x' : ByteArray) (n' : Nat) (c' : Nat → VT) (m' : List ByteArray) :
    (VT.mk k i x n c m).eqv (.mk k' i' x' n' c' m') = (decide (k = k') && decide (i = i') && decide (x = x') && decide (m = m') && decide (n = n') && VT.allTo (fun j => (c j).eqv (c' j)) n) := rfl
set_option maxRecDepth 100000 in
set_option maxHeartbeats 4000000 in
theorem refEqual_any (t : VT) : ∀ (u : VT) (w : World) (S S' : Nat → Prop) (v v' : Value), VAL w S t v → VAL w S' u v' → (∀ b, S b → b < w.heap.size) → (∀ b, S' b → b < w.heap.size) → t.bulk ≤ 1073741824 → u.bulk ≤ 1073741824 →
    Calls Tryz.prog 25 #[v, v'] w fun e w' => e = .returned (.bool (t.eqv u)) ∧ Below w.heap.size w w' := by
  induction t with
  | leaf => intro u w S S' v v' h; exact h.elim
  | mk k i x n c m ih =>
    intro u w S S' v v' h h' hS hS' hbk hbk'
    obtain ⟨k', i', x', n', c', m', rfl⟩ := h'.root
    obtain ⟨A, cap, A1, cap1, rfl, hk, hT, hV⟩ := h.open
    obtain ⟨A', cap', A1', cap1', rfl, hk', hT', hV'⟩ := h'.open
    obtain ⟨hn, -, hm, -⟩ := VT.bulk_n k i x n c m
    obtain ⟨hn1, -, hm1, -⟩ := VT.bulk_n k' i' x' n' c' m'
    have hn2 : n ≤ 1073741824 := by omega
    have hm2 : m.length ≤ 1073741824 := by omega
    have hn3 : n' ≤ 1073741824 := by omega
    have hm3 : m'.length ≤ 1073741824 := by omega
    have HE := Lib.hid (eqv_mk k i x n c m k' i' x' n' c' m')
    generalize (VT.mk k i x n c m).eqv (.mk k' i' x' n' c' m') = R at *
    have HK := Lib.hid (fun j hj => by have := VT.bulk_kid k i x n c m j hj; omega : ∀ j, j < n → (c j).bulk ≤ 1073741824)
    have HK' := Lib.hid (fun j hj => by have := VT.bulk_kid k' i' x' n' c' m' j hj; omega : ∀ j, j < n' → (c' j).bulk ≤ 1073741824)
    have HI := Lib.hid ih
    have HV := Lib.hid hV
    have HT := Lib.hid hT
    have HS := Lib.hid hS
    have HV' := Lib.hid hV'
    have HT' := Lib.hid hT'
    have HS' := Lib.hid hS'
    clear h h' hT hV hT' hV' hn hm hn1 hm1 hS hS' ih hbk hbk' hk hk'
    by_cases q1 : ¬ k = k'
    · have e1 : (k != k') = true := by rw [bne_iff_ne]; exact q1
      have e2 : (k == k') = false := by rw [beq_eq_false_iff_ne]; exact q1
      have HR : Hid (R = false) := Lib.hid (by rw [HE.out, decide_eq_false q1]; rfl)
      clear q1 HE
      go_enter Tryz.func25, Tryz.ntmps25
      go_wp2
      go_ret
      exact ⟨ret_bool' HR.out.symm, al2_below _ _ _⟩
    replace q1 := Classical.not_not.1 q1
    subst q1
    by_cases q2 : ¬ i = i'
    · have e1 : (i != i') = true := by rw [bne_iff_ne]; exact q2
      have e2 : (i == i') = false := by rw [beq_eq_false_iff_ne]; exact q2
      have HR : Hid (R = false) := Lib.hid (by rw [HE.out, decide_eq_false q2]; simp)
      clear q2 HE
      go_enter Tryz.func25, Tryz.ntmps25
      go_wp2
      go_ret
      exact ⟨ret_bool' HR.out.symm, al2_below _ _ _⟩
    replace q2 := Classical.not_not.1 q2
    subst q2
    by_cases q3 : ¬ x = x'
    · obtain ⟨e1, e2⟩ := str_ne q3
      have HR : Hid (R = false) := Lib.hid (by rw [HE.out, decide_eq_false q3]; simp)
      clear q3 HE
      go_enter Tryz.func25, Tryz.ntmps25
      go_wp2
      go_ret
      exact ⟨ret_bool' HR.out.symm, al2_below _ _ _⟩
    replace q3 := Classical.not_not.1 q3
    subst q3
    by_cases q4 : ¬ m = m'
    · have HR : Hid (R = false) := Lib.hid (by rw [HE.out, decide_eq_false q4]; simp)
      have HQ : Hid (eqT m m' = false) := Lib.hid (by unfold eqT; exact decide_eq_false q4)
      clear q4 HE
      go_enter Tryz.func25, Tryz.ntmps25
      go_wp2_with fail
      refine (EqTexts_any _ _ _ _ S S' m m' _ (HT.out.on HS.out (al2_below _ _ _)) (HT'.out.on HS'.out (al2_below _ _ _)) (by omega) (by omega)).mono ?_
      rintro e w' ⟨rfl, q, rfl⟩
      rw [HQ.out]
      go_wp2
      go_ret
      exact ⟨ret_bool' HR.out.symm, below_drewN (al2_below _ _ _) q⟩
    replace q4 := Classical.not_not.1 q4
    subst q4
    have HQ : Hid (eqT m m = true) := Lib.hid (by unfold eqT; simp)
    by_cases q5 : ¬ n = n'
    · have HR : Hid (R = false) := Lib.hid (by rw [HE.out, decide_eq_false q5]; simp)
      have e1 : ((n : Int) != (n' : Int)) = true := by rw [bne_iff_ne]; omega
      have e2 : ((n : Int) == (n' : Int)) = false := by rw [beq_eq_false_iff_ne]; omega
      have e3 : (n != n') = true := by rw [bne_iff_ne]; exact q5
      have e4 : (n == n') = false := by rw [beq_eq_false_iff_ne]; exact q5
      clear q5 HE
      go_enter Tryz.func25, Tryz.ntmps25
      go_wp2_with fail
      refine (EqTexts_any _ _ _ _ S S' m m _ (HT.out.on HS.out (al2_below _ _ _)) (HT'.out.on HS'.out (al2_below _ _ _)) (by omega) (by omega)).mono ?_
      rintro e w' ⟨rfl, q, rfl⟩
      rw [HQ.out]
      go_wp2
      go_ret
      exact ⟨ret_bool' HR.out.symm, below_drewN (al2_below _ _ _) q⟩
    replace q5 := Classical.not_not.1 q5
    subst q5
    have HR := Lib.hid (show R = VT.allTo (fun j => (c j).eqv (c' j)) n by rw [HE.out]; simp)
    clear HE
    go_enter Tryz.func25, Tryz.ntmps25
    go_wp2_with fail
    refine (EqTexts_any _ _ _ _ S S' m m _ (HT.out.on HS.out (al2_below _ _ _)) (HT'.out.on HS'.out (al2_below _ _ _)) (by omega) (by omega)).mono ?_
    rintro e w' ⟨rfl, q, rfl⟩
    rw [HQ.out]
    go_wp2_with fail
    generalize hg2 : w.heap.size + 1 = g2
    have HG2 := Lib.hid hg2
    clear hg2
    go_loopg [5] n (fun q v wr => ∃ p : Nat, p + q = n ∧ v = .int .i64 p ∧ Below w.heap.size w wr ∧ BX wr w.heap.size (.int .i64 k) (.bool i) (.string x) (.slice A n cap) (.slice A1 m.length cap1) ∧
      BX wr g2 (.int .i64 k) (.bool i) (.string x) (.slice A' n cap') (.slice A1' m.length cap1') ∧ VT.allTo (fun j => (c j).eqv (c' j)) p = true)
    case atStart =>
      have h2 := HG2.out
      subst h2
      exact ⟨0, by omega, rfl, below_drewN (al2_below _ _ _) q, al2_0 _ _ _, al2_1 _ _ _, rfl⟩
    case round =>
      obtain ⟨p, hp, rfl, hB, hX, hY, hall⟩ := hrel
      have HP := Lib.hid hp
      have HB := Lib.hid hB
      have HX := Lib.hid hX
      have HY := Lib.hid hY
      have HA := Lib.hid hall
      have x3 := hX.c3
      have y3 := hY.c3
      clear hp hX hY hall
      by_cases hlt : p < n
      · have hd0 : decide ((p : Int) < (n : Int)) = true := by simp; omega
        rcases HV.out.on HS.out hB with h0 | ⟨b, off, rfl, hbS, hc⟩
        · omega
        rcases HV'.out.on HS'.out hB with h0 | ⟨b', off', rfl, hbS', hc'⟩
        · omega
        obtain ⟨e0, e1, e2, e3, e4, ⟨c0, c1, c2, c3, c4⟩, hr⟩ := hc p hlt
        obtain ⟨f0, f1, f2, f3, f4, ⟨d0, d1, d2, d3, d4⟩, hr'⟩ := hc' p hlt
        have H1 := Lib.hid (HI.out p (c' p) wr.drew S S' _ _ (VAL.same (w := wr) (w' := wr.drew) (fun _ _ => rfl) hr) (VAL.same (w := wr) (w' := wr.drew) (fun _ _ => rfl) hr') (fun b hb => Nat.lt_of_lt_of_le (HS.out b hb) hB.size) (fun b hb => Nat.lt_of_lt_of_le (HS'.out b hb) hB.size) (HK.out p hlt) (HK'.out p hlt))
        have i1 : (0 : Int) ≤ p := by omega
        have i2 : (p : Int) < n := by omega
        have hlt' := hlt
        clear hc hc' hr hr' hB hlt
        have HL := Lib.hid hlt'
        clear hlt'
        cases hq : (c p).eqv (c' p)
        · rw [hq] at H1
          have HF : Hid (R = false) := Lib.hid (by rw [HR.out]; exact VT.allTo_false _ n p HL.out hq)
          clear hq
          go_wp2_with fail
          go_still_tail 10, (by kernel_rfl)
          change wpList _ _ _ _ _ wr.drew
          have HB2 : Hid (Below w.heap.size w wr.drew) := HB.out.drew
          have HX2 : Hid (BX wr.drew w.heap.size (.int .i64 k) (.bool i) (.string x) (.slice (some ⟨b, off, none⟩) n cap) (.slice A1 m.length cap1)) := HX.out
          have HY2 : Hid (BX wr.drew g2 (.int .i64 k) (.bool i) (.string x) (.slice (some ⟨b', off', none⟩) n cap') (.slice A1' m.length cap1')) := HY.out
          generalize wr.drew = w2 at *
          go_wp2_with fail
          refine (H1.out).mono ?_
          rintro e w3 ⟨rfl, hb⟩
          have HB3 := Lib.hid (HB2.out.trans (hb.mono HB2.out.size))
          have HX3 := Lib.hid (HX2.out.on hb)
          have HY3 := Lib.hid (HY2.out.on hb)
          clear hb
          go_wp2
          go_ret
          exact ⟨ret_bool' HF.out.symm, HB3.out⟩
        · rw [hq] at H1
          have HF : Hid (VT.allTo (fun j => (c j).eqv (c' j)) (p + 1) = true) := Lib.hid (by unfold VT.allTo; rw [HA.out, hq]; rfl)
          clear hq
          go_wp2_with fail
          go_still_tail 10, (by kernel_rfl)
          change wpList _ _ _ _ _ wr.drew
          have HB2 : Hid (Below w.heap.size w wr.drew) := HB.out.drew
          have HX2 : Hid (BX wr.drew w.heap.size (.int .i64 k) (.bool i) (.string x) (.slice (some ⟨b, off, none⟩) n cap) (.slice A1 m.length cap1)) := HX.out
          have HY2 : Hid (BX wr.drew g2 (.int .i64 k) (.bool i) (.string x) (.slice (some ⟨b', off', none⟩) n cap') (.slice A1' m.length cap1')) := HY.out
          generalize wr.drew = w2 at *
          go_wp2_with fail
          refine (H1.out).mono ?_
          rintro e w3 ⟨rfl, hb⟩
          have HB3 := Lib.hid (HB2.out.trans (hb.mono HB2.out.size))
          have HX3 := Lib.hid (HX2.out.on hb)
          have HY3 := Lib.hid (HY2.out.on hb)
          clear hb
          go_wp2
          go_roundg (gk - 1)
          case measure => have := HP.out; omega
          case rel => exact ⟨p + 1, by have := HP.out; omega, by go_num, HB3.out, HX3.out, HY3.out, HF.out⟩
      · have hd1 : decide (p < n) = false := by simp; omega
        have hd2 : decide ((p : Int) < (n : Int)) = false := by simp; omega
        have hpn : p = n := by have := HP.out; omega
        have HF : Hid (R = true) := Lib.hid (by rw [HR.out, ← hpn]; exact HA.out)
        clear hB hlt hpn
        go_wp2
        go_ret
        exact ⟨ret_bool' HF.out.symm, HB.out⟩
end Go.Proofs.YtfploakafbnigaaGreatDoor
namespace Go.Proofs.YtfploakafbnigaaGreatDoor
open Go.RowKit Val
set_option linter.unusedVariables false
set_option linter.unusedSimpArgs false
/-- a member, or none: the value lies in new memory -/
def Got (t : VT) (nm : ByteArray) (w : World) (e : Ending) (w' : World) : Prop := ∃ v', e = .returned (.tuple #[v', .bool (t.get nm).isSome]) ∧ VAL w' (New w w') (t.getD nm) v' ∧ Below w.heap.size w w'
theorem nul_VAL (w : World) (S : Nat → Prop) : VAL w S .nul (.agg #[.int .i64 0, .bool false, .string ⟨#[]⟩, .slice none 0 0, .slice none 0 0]) :=
  ⟨none, 0, none, 0, rfl, by omega, .inl rfl, .inl rfl⟩
end Go.Proofs.YtfploakafbnigaaGreatDoor
namespace Go.Proofs.YtfploakafbnigaaGreatDoor
open Go.RowKit Val
set_option linter.unusedVariables false
set_option linter.unusedSimpArgs false
/-- a row of texts, made by a call -/
def ClonedT (m : List ByteArray) (w : World) (e : Ending) (w' : World) : Prop := ∃ A' cap', e = .returned (.slice A' m.length cap') ∧ TS w' (New w w') A' m ∧ Below w.heap.size w w'
theorem CloneT_any (A : Option Addr) (cap : Nat) (m : List ByteArray) (w : World) (S : Nat → Prop) (h : TS w S A m) (hm : m.length ≤ 1073741824) :
    Calls Tryz.prog 151 #[.slice A m.length cap] w (ClonedT m w) := by
  cases A with
  | none =>
    have h0 : m = [] := by
      rcases h with h | ⟨_, _, e, _⟩
      · exact h
      · cases e
    subst h0
    refine (Tryz.slices_Clone_string_nil 0 cap w).mono ?_
    rintro e w' ⟨rfl, rfl⟩
    exact ⟨none, 0, rfl, .inl rfl, Below.refl _ _⟩
  | some a =>
    by_cases h0 : m = []
    · subst h0
      refine (Tryz.slices_Clone_string_zero a cap w).mono ?_
      rintro e w' ⟨v', rfl, hown, -, hb⟩
      obtain ⟨A5, c5, rfl, hT5⟩ := TS_of_own (l := []) (S' := New w w') hown (fun b hb => hown.lt b hb)
      exact ⟨A5, c5, rfl, hT5, hb⟩
    · rcases h with h | ⟨b, off, e, -, hc⟩
      · exact absurd h h0
      · injection e with e
        subst e
        refine (Tryz.slices_Clone_string b off m.length cap m w (Nat.le_refl _) (by omega) (fun j hj => by rw [hc j hj, List.getD_eq_getElem?_getD, List.getElem?_eq_getElem hj]; rfl)).mono ?_
        rintro e w' ⟨v', rfl, hown, -, hb⟩
        rw [List.take_of_length_le (Nat.le_refl _)] at hown
        obtain ⟨A5, c5, rfl, hT5⟩ := TS_of_own (S' := New w w') hown (fun b hb => hown.lt b hb)
        exact ⟨A5, c5, rfl, hT5, hb⟩
/-- the cells behind a row of values -/
theorem VS.cells {w : World} {S : Nat → Prop} {b off n : Nat} {c : Nat → VT} (h : VS w S (some ⟨b, off, none⟩) n c) (hn : 0 < n) (p : Nat) (hp : p ≤ n) : ∃ xs, VR w S xs p c ∧ ∀ j u, xs[j]? = some u → w.cell? ⟨b, off + j, none⟩ = some u ∧ u.oneCell' = true := by
  rcases h with h | ⟨b', off', e, -, hc⟩
  · omega
  injection e with e
  injection e with e1 e2
  subst e1 e2
  induction p with
  | zero => exact ⟨[], VR.nil _ _ _, fun j u hu => by simp at hu⟩
  | succ p ih =>
    obtain ⟨xs, hr, hx⟩ := ih (by omega)
    obtain ⟨v0, v1, v2, v3, v4, ⟨c0, c1, c2, c3, c4⟩, hv⟩ := hc p (by omega)
    refine ⟨_, hr.snoc hv, fun j u hu => ?_⟩
    have hl := hr.1
    have h1 := hv.one
    rcases Nat.lt_or_ge j xs.length with hj | hj
    · rw [List.getElem?_append_left hj] at hu
      exact hx j u hu
    · rw [List.getElem?_append_right hj] at hu
      have hj5 : j - xs.length < 5 := by
        rcases Nat.lt_or_ge (j - xs.length) 5 with h | h
        · exact h
        · rw [List.getElem?_eq_none (by simpa using h)] at hu; cases hu
      have hju : u ∈ [v0, v1, v2, v3, v4] := List.mem_of_getElem? hu
      refine ⟨?_, h1 u hju⟩
      have e : j = p * 5 + (j - xs.length) := by omega
      generalize j - xs.length = q at *
      subst e
      rcases q with _ | _ | _ | _ | _ | q
      · cases hu; exact c0
      · cases hu; exact c1
      · cases hu; exact c2
      · cases hu; exact c3
      · cases hu; exact c4
      · omega
/-- a row of values, made by a call: its values' own rows are the old ones -/
def ClonedV (S : Nat → Prop) (n : Nat) (c : Nat → VT) (w : World) (e : Ending) (w' : World) : Prop :=
  ∃ v' xs, e = .returned v' ∧ w'.ownsRow w.heap.size 25 5 v' n xs ∧ VR w' S xs n c ∧ Below w.heap.size w w'
set_option maxRecDepth 100000 in
set_option maxHeartbeats 1000000 in
theorem CloneV_any (A : Option Addr) (cap n : Nat) (c : Nat → VT) (w : World) (S : Nat → Prop) (h : VS w S A n c) (hS : ∀ b, S b → b < w.heap.size) (hn : n ≤ 1073741824) :
    Calls Tryz.prog 152 #[.slice A n cap] w (ClonedV S n c w) := by
  cases A with
  | none =>
    have h0 : n = 0 := by
      rcases h with h | ⟨_, _, e, _⟩
      · exact h
      · cases e
    subst h0
    clear h hS
    have hq := fun W => Go.run_eql_slice_nil (P := Tryz.prog) W 22 25 none 0 cap Tryz.underlying22
    go_enter Tryz.func152, Tryz.ntmps152
    go_wp2
    go_ret
    exact ⟨_, [], rfl, World.ownsRow_nil _ _ _ _, VR.nil _ _ _, Below.refl _ _⟩
  | some a =>
    obtain ⟨i0, hi0, hz0, hz1, hz2⟩ := info_parts Tryz.infoV
    obtain ⟨xs, hr, hx⟩ : ∃ xs, VR w S xs n c ∧ ∀ j u, xs[j]? = some u → w.cell? (a.add j) = some u ∧ u.oneCell' = true := by
      by_cases h0 : n = 0
      · subst h0; exact ⟨[], VR.nil _ _ _, fun j u hu => by simp at hu⟩
      · have h' := h
        rcases h with h | ⟨b, off, e, -, -⟩
        · exact absurd h h0
        · injection e with e
          subst e
          obtain ⟨xs, hr, hx⟩ := h'.cells (by omega) n (Nat.le_refl _)
          exact ⟨xs, hr, fun j u hu => by rw [show (⟨b, off, none⟩ : Addr).add j = ⟨b, off + j, none⟩ by unfold Addr.add; split <;> simp_all]; exact hx j u hu⟩
    have HX := Lib.hid hx
    have HR := Lib.hid hr
    have HS := Lib.hid hS
    have HI0 := Lib.hid hi0
    have HZ0 := Lib.hid hz0
    have HZ1 := Lib.hid hz1
    have HZ2 := Lib.hid hz2
    clear h hx hr hS hi0 hz0 hz1 hz2
    have hq := fun W => Go.run_eql_slice_nil (P := Tryz.prog) W 22 25 (some a) n cap Tryz.underlying22
    go_enter Tryz.func152, Tryz.ntmps152
    have HN : Hid (∀ j u, xs[j]? = some u → (w.alloc (.cells #[] 25)).cell? (a.add j) = some u) := Lib.hid (fun j u hu => by
      have := (HX.out j u hu).1
      rw [World.cell?_alloc_lt _ _ _ (World.block_lt_of_cell? _ _ this)]; exact this)
    have HO : Hid ((∀ u ∈ xs, u.oneCell' = true)) := Lib.hid (fun u hu => by
      obtain ⟨j, hj⟩ := List.getElem?_of_mem hu
      exact (HX.out j u hj).2)
    have HL := Lib.hid HR.out.1
    go_wp2_with (at_builtin; refine wpList_append_own _ rfl _ _ _ rfl w.heap.size 25 i0 _ 5 80 Tryz.underlying22 HI0.out HZ0.out HZ1.out HZ2.out rfl (by decide) _ 0 [] rfl (World.ownsRow_lit w #[] 0 (Nat.le_refl _) (Nat.zero_le _) rfl) a n cap xs rfl HL.out HN.out HO.out (by unfold maxLen; omega) (by omega) (by simp) ?_)
    intro v' w1 hown hg _
    have hb := ((Below.refl w.heap.size w).alloc (Nat.le_refl _) (.cells #[] 25)).grown hg (by simp) (fun k hk => by simp [Value.ownBlock] at hk; omega)
    have HOW := Lib.hid hown
    have HB := Lib.hid hb
    have HVR := Lib.hid (HR.out.same (below_same hb HS.out) (fun _ h => h))
    clear hown hb hg hq
    go_wp2
    go_ret
    exact ⟨_, xs, rfl, HOW.out, HVR.out, HB.out⟩
end Go.Proofs.YtfploakafbnigaaGreatDoor
namespace Go.Proofs.YtfploakafbnigaaGreatDoor
open Go.RowKit Val Go.Proofs.YtfploakafbnigaaGreatDoorW.PrintLast
set_option linter.unusedVariables false
set_option linter.unusedSimpArgs false
/-- a block of values, known whole: what its first n read as -/
def RW (w : World) (g n : Nat) (S : Nat → Nat → Prop) (c : Nat → VT) : Prop :=
  ∃ cur, w.heap[g]? = some (.cells cur 25 (0, 0)) ∧ n * 5 ≤ cur.size ∧
    ∀ j, j < n → ∃ v0 v1 v2 v3 v4, cur[j * 5]? = some v0 ∧ cur[j * 5 + 1]? = some v1 ∧ cur[j * 5 + 2]? = some v2 ∧ cur[j * 5 + 3]? = some v3 ∧ cur[j * 5 + 4]? = some v4 ∧ VAL w (S j) (c j) (.agg #[v0, v1, v2, v3, v4])
theorem RW.lt {w : World} {g n : Nat} {S : Nat → Nat → Prop} {c : Nat → VT} (h : RW w g n S c) : g < w.heap.size := by
  obtain ⟨cur, h1, -⟩ := h
  exact (Array.getElem?_eq_some_iff.1 h1).1
theorem RW.same {w w' : World} {g n : Nat} {S S' : Nat → Nat → Prop} {c : Nat → VT} (h : RW w g n S c) (hg : w'.heap[g]? = w.heap[g]?) (hs : ∀ j, j < n → Same (S j) w w') (hS : ∀ j b, S j b → S' j b) : RW w' g n S' c := by
  obtain ⟨cur, h1, h2, h3⟩ := h
  refine ⟨cur, hg.trans h1, h2, fun j hj => ?_⟩
  obtain ⟨v0, v1, v2, v3, v4, e0, e1, e2, e3, e4, hv⟩ := h3 j hj
  exact ⟨v0, v1, v2, v3, v4, e0, e1, e2, e3, e4, (hv.same (hs j hj)).mono (hS j)⟩
theorem RW.VS {w : World} {g n : Nat} {S : Nat → Nat → Prop} {S' : Nat → Prop} {c : Nat → VT} (h : RW w g n S c) (hg : S' g) (hS : ∀ j b, j < n → S j b → S' b) : VS w S' (some ⟨g, 0, none⟩) n c := by
  obtain ⟨cur, h1, h2, h3⟩ := h
  refine .inr ⟨g, 0, rfl, hg, fun j hj => ?_⟩
  obtain ⟨v0, v1, v2, v3, v4, e0, e1, e2, e3, e4, hv⟩ := h3 j hj
  refine ⟨v0, v1, v2, v3, v4, ⟨?_, ?_, ?_, ?_, ?_⟩, hv.mono (fun b hb => hS j b hj hb)⟩
  all_goals
    rw [Nat.zero_add, cell_of_row _ _ _ _ _ _ h1]
    assumption
theorem RW.cells {w : World} {g n : Nat} {S : Nat → Nat → Prop} {c : Nat → VT} (h : RW w g n S c) (p : Nat) (hp : p < n) : ∃ v0 v1 v2 v3 v4, C5 w g (p * 5) v0 v1 v2 v3 v4 ∧ VAL w (S p) (c p) (.agg #[v0, v1, v2, v3, v4]) := by
  obtain ⟨cur, h1, h2, h3⟩ := h
  obtain ⟨v0, v1, v2, v3, v4, e0, e1, e2, e3, e4, hv⟩ := h3 p hp
  exact ⟨v0, v1, v2, v3, v4, ⟨by rw [cell_of_row _ _ _ _ _ _ h1]; exact e0, by rw [cell_of_row _ _ _ _ _ _ h1]; exact e1, by rw [cell_of_row _ _ _ _ _ _ h1]; exact e2, by rw [cell_of_row _ _ _ _ _ _ h1]; exact e3, by rw [cell_of_row _ _ _ _ _ _ h1]; exact e4⟩, hv⟩
theorem RW.fr {w : World} {g n : Nat} {S : Nat → Nat → Prop} {c : Nat → VT} (h : RW w g n S c) (i : Nat) : w.frozen? ⟨g, i, none⟩ = false := by
  obtain ⟨cur, h1, -⟩ := h
  simp [World.frozen?, h1]
/-- five cells from o on are written -/
def put5 (w : World) (g o : Nat) (u0 u1 u2 u3 u4 : Value) : World := ((((w.setCell ⟨g, o, none⟩ u0).setCell ⟨g, o + 1, none⟩ u1).setCell ⟨g, o + 2, none⟩ u2).setCell ⟨g, o + 3, none⟩ u3).setCell ⟨g, o + 4, none⟩ u4
theorem put5_same {S : Nat → Prop} (w : World) (g o : Nat) (u0 u1 u2 u3 u4 : Value) (hS : ∀ b, S b → b ≠ g) : Same S w (put5 w g o u0 u1 u2 u3 u4) :=
  ((((set_same (p := ⟨g, o, none⟩) u0 hS).trans (set_same (p := ⟨g, o + 1, none⟩) u1 hS)).trans (set_same (p := ⟨g, o + 2, none⟩) u2 hS)).trans (set_same (p := ⟨g, o + 3, none⟩) u3 hS)).trans (set_same (p := ⟨g, o + 4, none⟩) u4 hS)
theorem put5_below {B : Nat} {w0 w : World} (h : Below B w0 w) (g o : Nat) (u0 u1 u2 u3 u4 : Value) (hg : B ≤ g) : Below B w0 (put5 w g o u0 u1 u2 u3 u4) :=
  ((((h.setCell (p := ⟨g, o, none⟩) hg u0).setCell (p := ⟨g, o + 1, none⟩) hg u1).setCell (p := ⟨g, o + 2, none⟩) hg u2).setCell (p := ⟨g, o + 3, none⟩) hg u3).setCell (p := ⟨g, o + 4, none⟩) hg u4
theorem put5_size (w : World) (g o : Nat) (u0 u1 u2 u3 u4 : Value) : (put5 w g o u0 u1 u2 u3 u4).heap.size = w.heap.size := by simp [put5, World.setCell]
theorem put5_block (w : World) (g o : Nat) (u0 u1 u2 u3 u4 : Value) (cur : Array Value) (T : TypeId) (h : w.heap[g]? = some (.cells cur T (0, 0))) :
    (put5 w g o u0 u1 u2 u3 u4).heap[g]? = some (.cells (((((cur.setIfInBounds o u0).setIfInBounds (o + 1) u1).setIfInBounds (o + 2) u2).setIfInBounds (o + 3) u3).setIfInBounds (o + 4) u4) T (0, 0)) := by
  simp [put5, World.setCell, Array.getElem?_modify, h]
theorem RW.put {w : World} {g n p : Nat} {S : Nat → Nat → Prop} {S1 : Nat → Prop} {c : Nat → VT} {u0 u1 u2 u3 u4 : Value} (h : RW w g n S c) (hp : p < n) (hS : ∀ j b, S j b → b ≠ g) (hS1 : ∀ b, S1 b → b ≠ g) (hv : VAL w S1 (c p) (.agg #[u0, u1, u2, u3, u4])) :
    RW (put5 w g (p * 5) u0 u1 u2 u3 u4) g n (fun j b => if j = p then S1 b else S j b) c := by
  obtain ⟨cur, h1, h2, h3⟩ := h
  refine ⟨_, put5_block w g (p * 5) u0 u1 u2 u3 u4 cur _ h1, by simpa using h2, fun j hj => ?_⟩
  by_cases e : j = p
  · subst e
    refine ⟨u0, u1, u2, u3, u4, ?_, ?_, ?_, ?_, ?_, (hv.same (put5_same _ _ _ _ _ _ _ _ hS1)).mono (fun b hb => by simpa using hb)⟩
    all_goals
      simp only [Array.getElem?_setIfInBounds, Array.size_setIfInBounds]
      repeat (first | rw [if_neg (by omega)] | rw [if_pos trivial] | rw [if_pos (by omega)])
  · obtain ⟨v0, v1, v2, v3, v4, e0, e1, e2, e3, e4, hu⟩ := h3 j hj
    refine ⟨v0, v1, v2, v3, v4, ?_, ?_, ?_, ?_, ?_, (hu.same (put5_same _ _ _ _ _ _ _ _ (hS j))).mono (fun b hb => by simpa [e] using hb)⟩
    all_goals
      simp only [Array.getElem?_setIfInBounds, Array.size_setIfInBounds]
      repeat rw [if_neg (by omega)]
      assumption
theorem RW.of_own {w : World} {base : Nat} {g n cap : Nat} {xs : List Value} {S : Nat → Prop} {c : Nat → VT} (h : w.ownsRow base 25 5 (.slice (some ⟨g, 0, none⟩) n cap) n xs) (hr : VR w S xs n c) : RW w g n (fun _ => S) c := by
  rcases h.2 with ⟨e, -⟩ | ⟨g', cap', cur, e, hb, hh, hn, hm, hcs, htk⟩
  · cases e
  · injection e with e1 e2 e3
    injection e1 with e1
    injection e1 with e1
    subst e1 e3
    refine ⟨cur, hh, by rw [hcs]; exact Nat.mul_le_mul_right 5 hn, fun j hj => ?_⟩
    obtain ⟨v0, v1, v2, v3, v4, e0, e1, e2, e3, e4, hv⟩ := hr.2 j hj
    have g : ∀ k u, xs[k]? = some u → cur[k]? = some u := fun k u hk => by
      rw [← htk] at hk
      rw [List.getElem?_take] at hk
      split at hk
      · rw [← Array.getElem?_toList]; exact hk
      · cases hk
    exact ⟨v0, v1, v2, v3, v4, g _ _ e0, g _ _ e1, g _ _ e2, g _ _ e3, g _ _ e4, hv⟩
/-- what the first drawn region reads -/
structure PS (g1 : Nat) (y3 y4 : Value) (w : World) : Prop where
  s3 : w.cell? ⟨g1, 3, none⟩ = some y3
  s4 : w.cell? ⟨g1, 4, none⟩ = some y4
theorem PS.on {g1 : Nat} {y3 y4 : Value} {w w' : World} (h : PS g1 y3 y4 w) (hb : Below w.heap.size w w') : PS g1 y3 y4 w' :=
  ⟨(hb.cell (p := ⟨g1, 3, none⟩) (World.block_lt_of_cell? w _ h.s3)).trans h.s3, (hb.cell (p := ⟨g1, 4, none⟩) (World.block_lt_of_cell? w _ h.s4)).trans h.s4⟩
/-- the loop's memory -/
structure PR (w W : World) (g2 z2 z3 : Nat) (k : Int) (i : Bool) (x : ByteArray) (LA NA : Option Addr) (n : Nat) (m : List ByteArray) (lcap ncap : Nat) (S : Nat → Prop) (c : Nat → VT) (p : Nat) : Prop where
  box : BX W w.heap.size (.int .i64 k) (.bool i) (.string x) (.slice LA n lcap) (.slice NA m.length ncap)
  res : BX W g2 (.int .i64 0) (.bool false) (.string ⟨#[]⟩) (.slice none 0 0) (.slice none 0 0)
  below : Below w.heap.size w W
  names : TS W (fun b => z2 ≤ b ∧ b < z3) NA m
  size : z3 ≤ W.heap.size
  row : n = 0 ∨ ∃ gl, LA = some ⟨gl, 0, none⟩ ∧ z3 ≤ gl ∧ RW W gl n (fun j b => if j < p then (z3 ≤ b ∧ b < W.heap.size ∧ b ≠ gl) else S b) c
theorem PR.on {w W W' : World} {g2 z2 z3 : Nat} {k : Int} {i : Bool} {x : ByteArray} {LA NA : Option Addr} {n : Nat} {m : List ByteArray} {lcap ncap : Nat} {S : Nat → Prop} {c : Nat → VT} {p : Nat}
    (h : PR w W g2 z2 z3 k i x LA NA n m lcap ncap S c p) (hS : ∀ b, S b → b < W.heap.size) (hb : Below W.heap.size W W') : PR w W' g2 z2 z3 k i x LA NA n m lcap ncap S c p where
  box := h.box.on hb
  res := h.res.on hb
  below := h.below.trans (hb.mono h.below.size)
  names := h.names.same (below_same hb (fun b hb => Nat.lt_of_lt_of_le hb.2 h.size))
  size := Nat.le_trans h.size hb.size
  row := h.row.imp id (fun ⟨gl, e, h1, h2⟩ => ⟨gl, e, h1, h2.same (hb.block _ h2.lt) (fun j _ => below_same hb (fun b hb => by
      by_cases hj : j < p
      · rw [if_pos hj] at hb; exact hb.2.1
      · rw [if_neg hj] at hb; exact hS b hb))
    (fun j b hb' => by
      by_cases hj : j < p
      · rw [if_pos hj] at hb' ⊢; exact ⟨hb'.1, Nat.lt_of_lt_of_le hb'.2.1 hb.size, hb'.2.2⟩
      · rw [if_neg hj] at hb' ⊢; exact hb')⟩)
/-- what the loop's drawn region reads -/
structure PT (g1 gx : Nat) (y3 e0 e1 e2 e3 e4 : Value) (w : World) : Prop where
  s3 : w.cell? ⟨g1, 3, none⟩ = some y3
  s4 : w.cell? ⟨gx, 0, none⟩ = some e0
  s5 : w.cell? ⟨gx, 1, none⟩ = some e1
  s6 : w.cell? ⟨gx, 2, none⟩ = some e2
  s7 : w.cell? ⟨gx, 3, none⟩ = some e3
  s8 : w.cell? ⟨gx, 4, none⟩ = some e4
theorem PT.on {g1 gx : Nat} {y3 e0 e1 e2 e3 e4 : Value} {w w' : World} (h : PT g1 gx y3 e0 e1 e2 e3 e4 w) (hb : Below w.heap.size w w') : PT g1 gx y3 e0 e1 e2 e3 e4 w' := by
  have k1 : ∀ o, w'.cell? ⟨g1, o, none⟩ = w.cell? ⟨g1, o, none⟩ := fun o => World.cell?_of_block (w := w) (hb.block g1 (World.block_lt_of_cell? w ⟨g1, 3, none⟩ h.s3))
  have kx : ∀ o, w'.cell? ⟨gx, o, none⟩ = w.cell? ⟨gx, o, none⟩ := fun o => World.cell?_of_block (w := w) (hb.block gx (World.block_lt_of_cell? w ⟨gx, 0, none⟩ h.s4))
  exact ⟨(k1 _).trans h.s3, (kx _).trans h.s4, (kx _).trans h.s5, (kx _).trans h.s6, (kx _).trans h.s7, (kx _).trans h.s8⟩
theorem PR.put {w W : World} {g2 z2 z3 gl : Nat} {k : Int} {i : Bool} {x : ByteArray} {NA : Option Addr} {n : Nat} {m : List ByteArray} {lcap ncap : Nat} {S S1 : Nat → Prop} {c : Nat → VT} {p : Nat} {u0 u1 u2 u3 u4 : Value}
    (h : PR w W g2 z2 z3 k i x (some ⟨gl, 0, none⟩) NA n m lcap ncap S c p) (hp : p < n) (hv : VAL W S1 (c p) (.agg #[u0, u1, u2, u3, u4])) (hS1 : ∀ b, S1 b → z3 ≤ b ∧ b < W.heap.size ∧ b ≠ gl) (hg2 : w.heap.size + 1 = g2) (hz3 : w.heap.size + 2 ≤ z3) (hS : ∀ b, S b → b < w.heap.size) :
    PR w (put5 W gl (p * 5) u0 u1 u2 u3 u4) g2 z2 z3 k i x (some ⟨gl, 0, none⟩) NA n m lcap ncap S c (p + 1) := by
  rcases h.row with h0 | ⟨gl', e, hgl, hrw⟩
  · omega
  injection e with e
  injection e with e
  subst e
  refine ⟨BX.same h.box (put5_same (S := (· = w.heap.size)) W gl _ _ _ _ _ _ (fun b hb => by subst hb; omega) _ rfl), BX.same h.res (put5_same (S := (· = g2)) W gl _ _ _ _ _ _ (fun b hb => by subst hb; omega) _ rfl),
    put5_below h.below gl _ _ _ _ _ _ (by omega), h.names.same (put5_same W gl _ _ _ _ _ _ (fun b hb => by have := hb.2; omega)), by rw [put5_size]; exact h.size, .inr ⟨gl, rfl, hgl, ?_⟩⟩
  refine (hrw.put hp (fun j b hb => ?_) (fun b hb => (hS1 b hb).2.2) hv).same rfl (fun _ _ _ _ => rfl) (fun j b hb => ?_)
  · by_cases hj : j < p
    · rw [if_pos hj] at hb; exact hb.2.2
    · rw [if_neg hj] at hb; have := hS b hb; omega
  · rw [put5_size]
    by_cases e : j = p
    · subst e
      rw [if_pos rfl] at hb
      rw [if_pos (by omega)]
      exact hS1 b hb
    · rw [if_neg e] at hb
      by_cases hj : j < p
      · rw [if_pos hj] at hb; rw [if_pos (by omega)]; exact hb
      · rw [if_neg hj] at hb; rw [if_neg (by omega)]; exact hb
/-- its list may be written -/
def NF (w : World) (v : Value) : Prop := ∀ v0 v1 v2 A n c v4, v = .agg #[v0, v1, v2, .slice A n c, v4] → n = 0 ∨ ∃ b off, A = some ⟨b, off, none⟩ ∧ ∀ o, w.frozen? ⟨b, o, none⟩ = false
theorem NF.same {w w' : World} {S : Nat → Prop} {t : VT} {v : Value} (h : NF w v) (hv : VAL w S t v) (hs : Same S w w') : NF w' v := by
  intro v0 v1 v2 A n c v4 e
  rcases h v0 v1 v2 A n c v4 e with h0 | ⟨b, off, rfl, hf⟩
  · exact .inl h0
  · by_cases hn : n = 0
    · exact .inl hn
    · obtain ⟨k, i, x, n', ch, m, rfl⟩ := hv.root
      obtain ⟨A', cap, A1, cap1, e2, -, -, hV⟩ := hv.open
      rw [e] at e2
      injection e2 with e2
      injection e2 with e2
      injection e2 with z0 e2; injection e2 with z1 e2; injection e2 with z2 e2; injection e2 with z3 e2
      injection z3 with z4 z5 z6
      subst z4 z5
      rcases hV with h0 | ⟨b', off', e3, hSb, -⟩
      · exact absurd h0 hn
      · injection e3 with e3
        injection e3 with e3 e4
        subst e3
        exact .inr ⟨b, off, rfl, fun o => (World.frozen?_of_block (w := w) (hs b hSb)).trans (hf o)⟩
/-- a copy, whose list may be written -/
def CopiedF (t : VT) (w : World) (e : Ending) (w' : World) : Prop := ∃ v', e = .returned v' ∧ VAL w' (New w w') t v' ∧ Below w.heap.size w w' ∧ NF w' v'
theorem CopiedF.any {t : VT} {w w' : World} {e : Ending} (h : CopiedF t w e w') : Copied t w e w' := by
  obtain ⟨v', h1, h2, h3, -⟩ := h
  exact ⟨v', h1, h2, h3⟩
set_option maxRecDepth 100000 in
set_option maxHeartbeats 4000000 in
theorem Copy_nf (t : VT) : ∀ (w : World) (S : Nat → Prop) (v : Value), VAL w S t v → (∀ b, S b → b < w.heap.size) → t.bulk ≤ 1073741824 →
    Calls Tryz.prog 101 #[v] w (CopiedF t w) := by
  induction t with
  | leaf => intro w S v h; exact h.elim
  | mk k i x n c m ih =>
    intro w S v h hS hbk
    obtain ⟨A, cap, A', cap', rfl, hk, hT, hV⟩ := h.open
    obtain ⟨hn, -, hm, -⟩ := VT.bulk_n k i x n c m
    have hn' : n ≤ 1073741824 := by omega
    have hm' : m.length ≤ 1073741824 := by omega
    have HK := Lib.hid (fun j hj => by have := VT.bulk_kid k i x n c m j hj; omega : ∀ j, j < n → (c j).bulk ≤ 1073741824)
    have HI := Lib.hid ih
    have HV := Lib.hid hV
    have HT := Lib.hid hT
    have HS := Lib.hid hS
    have Hk := Lib.hid hk
    clear h hT hV hk hn hm hS ih hbk
    go_enter Tryz.func101, Tryz.ntmps101
    go_wp2_with fail
    generalize hg2 : w.heap.size + 1 = g2
    have HG2 := Lib.hid hg2
    have HB0 := Lib.hid (al2_below w (.cells #[.int .i64 k, .bool i, .string x, .slice A n cap, .slice A' m.length cap'] 25) (.cells #[.int .i64 0, .bool false, .string ⟨#[]⟩, .slice none 0 0, .slice none 0 0] 25))
    have HX0 : Hid (BX ((w.alloc (.cells #[.int .i64 k, .bool i, .string x, .slice A n cap, .slice A' m.length cap'] 25)).alloc (.cells #[.int .i64 0, .bool false, .string ⟨#[]⟩, .slice none 0 0, .slice none 0 0] 25)) w.heap.size (.int .i64 k) (.bool i) (.string x) (.slice A n cap) (.slice A' m.length cap')) := Lib.hid (al2_0 _ _ _)
    have HY0 : Hid (BX ((w.alloc (.cells #[.int .i64 k, .bool i, .string x, .slice A n cap, .slice A' m.length cap'] 25)).alloc (.cells #[.int .i64 0, .bool false, .string ⟨#[]⟩, .slice none 0 0, .slice none 0 0] 25)) g2 (.int .i64 0) (.bool false) (.string ⟨#[]⟩) (.slice none 0 0) (.slice none 0 0)) := Lib.hid (by rw [← hg2]; exact al2_1 _ _ _)
    clear hg2
    generalize ((w.alloc (.cells #[.int .i64 k, .bool i, .string x, .slice A n cap, .slice A' m.length cap'] 25)).alloc (.cells #[.int .i64 0, .bool false, .string ⟨#[]⟩, .slice none 0 0, .slice none 0 0] 25)) = w1 at *
    refine start_ (n := 10) (S := PS w.heap.size (.slice A n cap) (.slice A' m.length cap')) (ds := [7, 9]) #[false, false, false, false, false, false, false, false, false, false] (by kernel_rfl) rfl rfl ⟨HX0.out.c3, HX0.out.c4⟩ (fun hHeld => ?_)
    replace HB0 : Hid (Below w.heap.size w w1.drew) := HB0.out.drew
    replace HX0 : Hid (BX w1.drew w.heap.size (.int .i64 k) (.bool i) (.string x) (.slice A n cap) (.slice A' m.length cap')) := HX0.out
    replace HY0 : Hid (BX w1.drew g2 (.int .i64 0) (.bool false) (.string ⟨#[]⟩) (.slice none 0 0) (.slice none 0 0)) := HY0.out
    generalize w1.drew = w2 at *
    refine pure_ (i := 0) (N := some 5) (v := ?_) (a' := ?_) #[true, false, false, false, false, false, false, false, false, false] rfl rfl (by kernel_rfl) (fun _ _ _ h => h) (Or.inl ⟨by rfl, ?_⟩) ?_ ?_
    rotate_left
    · intro w'; go_simp; with_reducible rfl
    rotate_left
    · simp only [Act.put, List.setIfInBounds_toArray, List.set_cons_zero, List.set_cons_succ, i64_w, i32_w]; rfl
    refine pure_ (i := 3) (N := some 8) (v := ?_) (a' := ?_) #[true, false, false, true, false, false, false, false, false, false] rfl rfl (by kernel_rfl) (fun _ _ _ h => h) (Or.inl ⟨by rfl, ?_⟩) ?_ ?_
    rotate_left
    · intro w'; go_simp; with_reducible rfl
    rotate_left
    · simp only [Act.put, List.setIfInBounds_toArray, List.set_cons_zero, List.set_cons_succ, i64_w, i32_w]; rfl
    refine take_ (i := 1) (N := some 6) (v := ?_) (a' := ?_) #[true, true, false, true, false, false, false, false, false, false] rfl rfl (by kernel_rfl) (fun _ _ _ h => h) (Or.inl ⟨by rfl, ?_⟩) hHeld ?_ ?_
    rotate_left
    · rintro w' ⟨s3, s4⟩; go_simp; with_reducible rfl
    rotate_left
    · simp only [Act.put, List.setIfInBounds_toArray, List.set_cons_zero, List.set_cons_succ, i64_w, i32_w]; rfl
    refine take_ (i := 4) (N := some 9) (v := ?_) (a' := ?_) #[true, true, false, true, true, false, false, false, false, false] rfl rfl (by kernel_rfl) (fun _ _ _ h => h) (Or.inl ⟨by rfl, ?_⟩) hHeld ?_ ?_
    rotate_left
    · rintro w' ⟨s3, s4⟩; go_simp; with_reducible rfl
    rotate_left
    · simp only [Act.put, List.setIfInBounds_toArray, List.set_cons_zero, List.set_cons_succ, i64_w, i32_w]; rfl
    refine one_ (i := 2) (N := some 7) #[true, true, true, true, true, false, false, false, false, false] rfl rfl (by kernel_rfl) (by decide) (fun K hK => ?_)
    refine goes_ Tryz.func151 (by kernel_rfl) rfl #[.slice A' m.length cap'] (by rfl) rfl rfl (by (try simp only [List.map_toArray, List.map_cons, List.map_nil]); first | done | rfl) ?_
    with_reducible refine (CloneT_any A' cap' m w2 S (HT.out.on HS.out HB0.out) hm').mono ?_
    rintro e w3 ⟨NA, ncap, rfl, hTN, hb⟩
    refine ⟨_, rfl, ?_⟩
    refine hK.out _ _ (hHeld.on hb) (fun hHeld2 => ?_)
    clear hK K
    have HB3 := Lib.hid (HB0.out.trans (hb.mono HB0.out.size))
    have HX3 := Lib.hid (HX0.out.on hb)
    have HY3 := Lib.hid (HY0.out.on hb)
    have HTN : Hid (TS w3 (fun b => w2.heap.size ≤ b ∧ b < w3.heap.size) NA m) := Lib.hid hTN
    have HZ2 := Lib.hid (show g2 < w2.heap.size from HY0.out.lt)
    have HZ3 := Lib.hid hb.size
    clear hb hTN hHeld HX0 HY0
    refine norm_ (a' := ?_) ?_ ?_
    rotate_left
    · show Act.put _ (some 7) _ = _; simp only [Act.put, List.setIfInBounds_toArray, List.set_cons_zero, List.set_cons_succ, i64_w, i32_w]; rfl
    refine pure_ (i := 6) (N := some 11) (v := ?_) (a' := ?_) #[true, true, true, true, true, false, true, false, false, false] rfl rfl (by kernel_rfl) (fun _ _ _ h => h) (Or.inl ⟨by rfl, ?_⟩) ?_ ?_
    rotate_left
    · intro w'; go_simp; with_reducible rfl
    rotate_left
    · simp only [Act.put, List.setIfInBounds_toArray, List.set_cons_zero, List.set_cons_succ, i64_w, i32_w]; rfl
    refine one_ (i := 5) (N := some 10) #[true, true, true, true, true, true, true, false, false, false] rfl rfl (by kernel_rfl) (by decide) (fun K hK => ?_)
    refine goes_ Tryz.func152 (by kernel_rfl) rfl #[.slice A n cap] (by rfl) rfl rfl (by (try simp only [List.map_toArray, List.map_cons, List.map_nil]); first | done | rfl) ?_
    with_reducible refine (CloneV_any A cap n c w3 S (HV.out.on HS.out HB3.out) (fun b hb => Nat.lt_of_lt_of_le (HS.out b hb) HB3.out.size) hn').mono ?_
    rintro e w4 ⟨lv, xs, rfl, hown, hvr, hb⟩
    refine ⟨_, rfl, ?_⟩
    refine hK.out _ _ (hHeld2.on hb) (fun hHeld4 => ?_)
    clear hK K
    have HB4 := Lib.hid (HB3.out.trans (hb.mono HB3.out.size))
    have HX4 := Lib.hid (HX3.out.on hb)
    have HY4 := Lib.hid (HY3.out.on hb)
    have HTN4 : Hid (TS w4 (fun b => w2.heap.size ≤ b ∧ b < w3.heap.size) NA m) := Lib.hid (HTN.out.same (below_same hb (fun b hb => hb.2)))
    have HZ4 := Lib.hid hb.size
    have HOW := Lib.hid hown
    have HVR := Lib.hid hvr
    clear hb hown hvr hHeld2 HX3 HY3 HTN
    obtain ⟨LA, lcap, rfl⟩ : ∃ LA lcap, lv = .slice LA n lcap := by
      rcases HOW.out.2 with ⟨e, h0⟩ | ⟨g, cap, cur, e, -⟩
      · exact ⟨none, 0, by rw [e, h0]⟩
      · exact ⟨_, _, e⟩
    refine norm_ (a' := ?_) ?_ ?_
    rotate_left
    · show Act.put _ (some 10) _ = _; simp only [Act.put, List.setIfInBounds_toArray, List.set_cons_zero, List.set_cons_succ, i64_w, i32_w]; rfl
    refine last_ (i := 7) (N := none) #[true, true, true, true, true, true, true, true, false, false] rfl rfl (by kernel_rfl) (by decide) (fun K hK => ?_)
    have f4 := HX4.out.fr 4
    have k4 := HX4.out.c4
    refine skip_ (w1 := ?_) (by rfl) rfl ?_ ?_
    rotate_left
    · go_simp
      rfl
    refine hK.out _ _ ?_
    clear hK K
    refine pure_ (i := 8) (N := some 12) (v := ?_) (a' := ?_) #[true, true, true, true, true, true, true, true, true, false] rfl rfl (by kernel_rfl) (fun _ _ _ h => h) (Or.inl ⟨by rfl, ?_⟩) ?_ ?_
    rotate_left
    · intro w'; go_simp; with_reducible rfl
    rotate_left
    · simp only [Act.put, List.setIfInBounds_toArray, List.set_cons_zero, List.set_cons_succ, i64_w, i32_w]; rfl
    refine last_ (i := 9) (N := none) #[true, true, true, true, true, true, true, true, true, true] rfl rfl (by kernel_rfl) (by decide) (fun K hK => ?_)
    have f3 : (w4.setCell ⟨w.heap.size, 4, none⟩ (.slice NA m.length ncap)).frozen? ⟨w.heap.size, 3, none⟩ = false := (HX4.out.set4 _).fr 3
    have k3 : (w4.setCell ⟨w.heap.size, 4, none⟩ (.slice NA m.length ncap)).cell? ⟨w.heap.size, 3, none⟩ = some (.slice A n cap) := (HX4.out.set4 _).c3
    refine skip_ (w1 := ?_) (by rfl) rfl ?_ ?_
    rotate_left
    · go_simp
      rfl
    refine hK.out _ _ ?_
    clear hK K f3 k3 f4 k4
    refine done_ (by kernel_rfl) ?_
    have HX5 := Lib.hid ((HX4.out.set4 (.slice NA m.length ncap)).set3 (.slice LA n lcap))
    have hne : g2 ≠ w.heap.size := by have := HG2.out; omega
    have HY5 := Lib.hid ((HY4.out.far (p := ⟨w.heap.size, 4, none⟩) (.slice NA m.length ncap) hne).far (p := ⟨w.heap.size, 3, none⟩) (.slice LA n lcap) hne)
    have HB5 := Lib.hid ((HB4.out.setCell (p := ⟨w.heap.size, 4, none⟩) (Nat.le_refl _) (.slice NA m.length ncap)).setCell (p := ⟨w.heap.size, 3, none⟩) (Nat.le_refl _) (.slice LA n lcap))
    have HTN5 := Lib.hid ((HTN4.out.same (set_same (p := ⟨w.heap.size, 4, none⟩) (.slice NA m.length ncap) (fun b hb => by have := HZ2.out; have := HG2.out; show b ≠ w.heap.size; omega))).same (set_same (p := ⟨w.heap.size, 3, none⟩) (.slice LA n lcap) (fun b hb => by have := HZ2.out; have := HG2.out; show b ≠ w.heap.size; omega)))
    have hz3 : w.heap.size + 2 ≤ w3.heap.size := by have := HZ2.out; have := HZ3.out; have := HG2.out; omega
    have HOW5 := Lib.hid (own_far (own_far HOW.out (p := ⟨w.heap.size, 4, none⟩) (.slice NA m.length ncap) (by show w.heap.size < _; omega)) (p := ⟨w.heap.size, 3, none⟩) (.slice LA n lcap) (by show w.heap.size < _; omega))
    have HVR5 := Lib.hid ((HVR.out.same (set_same (p := ⟨w.heap.size, 4, none⟩) (.slice NA m.length ncap) (fun b hb => by have := HS.out b hb; show b ≠ w.heap.size; omega)) (fun _ h => h)).same (set_same (p := ⟨w.heap.size, 3, none⟩) (.slice LA n lcap) (fun b hb => by have := HS.out b hb; show b ≠ w.heap.size; omega)) (fun _ h => h))
    have HZ5 : Hid (w3.heap.size ≤ ((w4.setCell ⟨w.heap.size, 4, none⟩ (.slice NA m.length ncap)).setCell ⟨w.heap.size, 3, none⟩ (.slice LA n lcap)).heap.size) := Lib.hid (by have := HZ4.out; simpa [World.setCell] using this)
    generalize ((w4.setCell ⟨w.heap.size, 4, none⟩ (.slice NA m.length ncap)).setCell ⟨w.heap.size, 3, none⟩ (.slice LA n lcap)) = w5 at *
    have x3 := HX5.out.c3
    clear hHeld4 HX4 HY4 HTN4 HOW HVR HB4 HB3 HB0
    generalize w2.heap.size = z2 at *
    generalize w3.heap.size = z3 at *
    go_wp2_with fail
    clear x3
    go_loopg [16] n (fun q v wr => ∃ p : Nat, p + q = n ∧ v = .int .i64 p ∧ PR w wr g2 z2 z3 k i x LA NA n m lcap ncap S c p)
    case atStart =>
      refine ⟨0, by omega, rfl, HX5.out, HY5.out, HB5.out, HTN5.out, HZ5.out, ?_⟩
      by_cases h0 : n = 0
      · exact .inl h0
      · right
        obtain ⟨g, cap, e, -, -⟩ := HOW5.out.form (by omega)
        injection e with e1 e2 e3
        subst e1
        have hg := HOW5.out.lt g rfl
        exact ⟨g, rfl, hg.1, (RW.of_own HOW5.out HVR5.out).same rfl (fun _ _ _ _ => rfl) (fun j b hb => by rw [if_neg (by omega)]; exact hb)⟩
    case round =>
      obtain ⟨p, hp, rfl, hR⟩ := hrel
      have HP := Lib.hid hp
      have HR := Lib.hid hR
      clear hp HX5 HY5 HB5 HTN5 HZ5 HOW5 HVR5
      by_cases hlt : p < n
      · rcases hR.row with h0 | ⟨gl, rfl, hgl, hrw⟩
        · omega
        have hglt := hrw.lt
        obtain ⟨e0, e1, e2, e3, e4, ⟨c0, c1, c2, c3, c4⟩, hr⟩ := hrw.cells p hlt
        replace hr := hr.mono (S' := S) (fun b hb => by simpa using hb)
        obtain ⟨vk, vi, vx, VA, vn, vc, VA', vn', vc', e⟩ := hr.shape
        injection e with e
        injection e with e
        injection e with q0 e; injection e with q1 e; injection e with q2 e; injection e with q3 e; injection e with q4 e
        subst q0 q1 q2 q3 q4
        have hd0 : decide ((p : Int) < (n : Int)) = true := by simp; omega
        have i1 : (0 : Int) ≤ p := by omega
        have i2 : (p : Int) < n := by omega
        have HRW := Lib.hid hrw
        have HGL := Lib.hid hgl
        have HGT := Lib.hid hglt
        have HE := Lib.hid hr
        have HL := Lib.hid hlt
        clear hR hr hrw e hgl hglt hlt
        go_wp2_with fail
        have hA := (Below.refl wr.heap.size wr).alloc (Nat.le_refl _) (.cells #[.int .i64 vk, .bool vi, .string vx, .slice VA vn vc, .slice VA' vn' vc'] 25)
        have HR1 := Lib.hid (HR.out.on (fun b hb => Nat.lt_of_lt_of_le (HS.out b hb) HR.out.below.size) hA)
        have HXX : Hid (BX (wr.alloc (.cells #[.int .i64 vk, .bool vi, .string vx, .slice VA vn vc, .slice VA' vn' vc'] 25)) wr.heap.size (.int .i64 vk) (.bool vi) (.string vx) (.slice VA vn vc) (.slice VA' vn' vc')) := Lib.hid (BX.new _ _ _ _ _ _)
        have HE1 := Lib.hid (HE.out.on (fun b hb => Nat.lt_of_lt_of_le (HS.out b hb) HR.out.below.size) hA)
        have HGX := Lib.hid hA.size
        clear hA c0 c1 c2 c3 c4
        generalize (wr.alloc (.cells #[.int .i64 vk, .bool vi, .string vx, .slice VA vn vc, .slice VA' vn' vc'] 25)) = w6 at *
        generalize hgx : wr.heap.size = gx at *
        have HGXE := Lib.hid hgx
        clear hgx
        refine start_ (n := 7) (S := PT w.heap.size gx (.slice (some ⟨gl, 0, none⟩) n lcap) (.int .i64 vk) (.bool vi) (.string vx) (.slice VA vn vc) (.slice VA' vn' vc')) (ds := [6]) #[false, false, false, false, false, false, false] (by kernel_rfl) rfl rfl ⟨HR1.out.box.c3, HXX.out.c0, HXX.out.c1, HXX.out.c2, HXX.out.c3, HXX.out.c4⟩ (fun hHeld => ?_)
        replace HR1 := Lib.hid (HR1.out.on (fun b hb => Nat.lt_of_lt_of_le (HS.out b hb) HR1.out.below.size) ((Below.refl _ _).drew))
        replace HE1 : Hid (VAL w6.drew S (c p) _) := Lib.hid (VAL.same (w := w6) (w' := w6.drew) (fun _ _ => rfl) HE1.out)
        have HGX1 : Hid (gx ≤ w6.drew.heap.size) := HGX
        clear HXX HGX
        generalize w6.drew = w7 at *
        refine pure_ (i := 0) (N := some 21) (v := ?_) (a' := ?_) #[true, false, false, false, false, false, false] rfl rfl (by kernel_rfl) (fun _ _ _ h => h) (Or.inl ⟨by rfl, ?_⟩) ?_ ?_
        rotate_left
        · intro w'; go_simp; with_reducible rfl
        rotate_left
        · simp only [Act.put, List.setIfInBounds_toArray, List.set_cons_zero, List.set_cons_succ, i64_w, i32_w]; rfl
        refine take_ (i := 1) (N := some 22) (v := ?_) (a' := ?_) #[true, true, false, false, false, false, false] rfl rfl (by kernel_rfl) (fun _ _ _ h => h) (Or.inl ⟨by rfl, ?_⟩) hHeld ?_ ?_
        rotate_left
        · rintro w' ⟨s3, s4, s5, s6, s7, s8⟩; go_simp; with_reducible rfl
        rotate_left
        · simp only [Act.put, List.setIfInBounds_toArray, List.set_cons_zero, List.set_cons_succ, i64_w, i32_w]; rfl
        refine pure_ (i := 2) (N := some 23) (v := ?_) (a' := ?_) #[true, true, true, false, false, false, false] rfl rfl (by kernel_rfl) (fun _ _ _ h => h) (Or.inl ⟨by rfl, ?_⟩) ?_ ?_
        rotate_left
        · intro w'; go_simp; with_reducible rfl
        rotate_left
        · simp only [Act.put, List.setIfInBounds_toArray, List.set_cons_zero, List.set_cons_succ, i64_w, i32_w]; rfl
        refine take_ (i := 3) (N := some 24) (v := ?_) (a' := ?_) #[true, true, true, true, false, false, false] rfl rfl (by kernel_rfl) (fun _ _ _ h => h) (Or.inl ⟨by rfl, ?_⟩) hHeld ?_ ?_
        rotate_left
        · rintro w' ⟨s3, s4, s5, s6, s7, s8⟩; go_simp; with_reducible rfl
        rotate_left
        · simp only [Act.put, List.setIfInBounds_toArray, List.set_cons_zero, List.set_cons_succ, i64_w, i32_w]; rfl
        refine one_ (i := 4) (N := some 25) #[true, true, true, true, true, false, false] rfl rfl (by kernel_rfl) (by decide) (fun K hK => ?_)
        refine goes_ Tryz.func101 (by kernel_rfl) rfl #[.agg #[.int .i64 vk, .bool vi, .string vx, .slice VA vn vc, .slice VA' vn' vc']] (by rfl) rfl rfl (by (try simp only [List.map_toArray, List.map_cons, List.map_nil]); first | done | rfl) ?_
        with_reducible refine (HI.out p w7 S _ HE1.out (fun b hb => Nat.lt_of_lt_of_le (HS.out b hb) HR1.out.below.size) (HK.out p HL.out)).mono ?_
        rintro e w8 ⟨v', rfl, hv, hb, -⟩
        refine ⟨_, rfl, ?_⟩
        refine hK.out _ _ (hHeld.on hb) (fun hHeld2 => ?_)
        clear hK K
        obtain ⟨uk, ui, ux, UA, un, uc, UA', un', uc', rfl⟩ := hv.shape
        have HR2 := Lib.hid (HR1.out.on (fun b hb => Nat.lt_of_lt_of_le (HS.out b hb) HR1.out.below.size) hb)
        have HV2 := Lib.hid hv
        have HZ8 := Lib.hid hb.size
        clear hb hv hHeld HE1
        refine norm_ (a' := ?_) ?_ ?_
        rotate_left
        · show Act.put _ (some 25) _ = _; simp only [Act.put, List.setIfInBounds_toArray, List.set_cons_zero, List.set_cons_succ, i64_w, i32_w]; rfl
        refine pure_ (i := 5) (N := some 26) (v := ?_) (a' := ?_) #[true, true, true, true, true, true, false] rfl rfl (by kernel_rfl) (fun _ _ _ h => h) (Or.inl ⟨by rfl, ?_⟩) ?_ ?_
        rotate_left
        · intro w'; go_simp; with_reducible rfl
        rotate_left
        · simp only [Act.put, List.setIfInBounds_toArray, List.set_cons_zero, List.set_cons_succ, i64_w, i32_w]; rfl
        refine last_ (i := 6) (N := none) #[true, true, true, true, true, true, true] rfl rfl (by kernel_rfl) (by decide) (fun K hK => ?_)
        obtain ⟨e0, e1, e2, e3, e4, ⟨c0, c1, c2, c3, c4⟩, ff⟩ : ∃ v0 v1 v2 v3 v4, C5 w8 gl (p * 5) v0 v1 v2 v3 v4 ∧ ∀ i, w8.frozen? ⟨gl, i, none⟩ = false := by
          rcases HR2.out.row with h0 | ⟨gl', e, -, hrw⟩
          · have := HL.out; omega
          · injection e with e
            injection e with e
            subst e
            obtain ⟨v0, v1, v2, v3, v4, h5, -⟩ := hrw.cells p HL.out
            exact ⟨v0, v1, v2, v3, v4, h5, hrw.fr⟩
        have ff0 := ff (p * 5)
        have ff1 := ff (p * 5 + 1)
        have ff2 := ff (p * 5 + 2)
        have ff3 := ff (p * 5 + 3)
        have ff4 := ff (p * 5 + 4)
        clear ff
        refine skip_ (w1 := ?_) (by rfl) rfl ?_ ?_
        rotate_left
        · go_simp
          rfl
        refine hK.out _ _ ?_
        clear hK K
        refine done_ (by kernel_rfl) ?_
        clear c0 c1 c2 c3 c4 ff0 ff1 ff2 ff3 ff4 hHeld2
        go_wp2
        have HL' := HL.out
        go_roundg (gk - 1)
        case measure => have := HP.out; omega
        case rel =>
          refine ⟨p + 1, by have := HP.out; omega, by go_num, ?_⟩
          have hgl : gl < w7.heap.size := by
            rcases HR1.out.row with h0 | ⟨gl', e, -, hrw⟩
            · omega
            · injection e with e
              injection e with e
              subst e
              exact hrw.lt
          exact HR2.out.put HL' HV2.out (fun b hb => ⟨Nat.le_trans HR1.out.size hb.1, hb.2, by have := hb.1; omega⟩) HG2.out hz3 HS.out
      · have hd1 : decide (p < n) = false := by simp; omega
        have hd2 : decide ((p : Int) < (n : Int)) = false := by simp; omega
        have hpn : p = n := by have := HP.out; omega
        have x0 := hR.box.c0
        have x1 := hR.box.c1
        have x2 := hR.box.c2
        have x3 := hR.box.c3
        have x4 := hR.box.c4
        have y0 := hR.res.c0
        have y1 := hR.res.c1
        have y2 := hR.res.c2
        have y3 := hR.res.c3
        have y4 := hR.res.c4
        have f0 := hR.res.fr 0
        have f1 := hR.res.fr 1
        have f2 := hR.res.fr 2
        have f3 := hR.res.fr 3
        have f4 := hR.res.fr 4
        have hres := hR.res.put (.int .i64 k) (.bool i) (.string x) (.slice LA n lcap) (.slice NA m.length ncap)
        have r0 := hres.c0
        have r1 := hres.c1
        have r2 := hres.c2
        have r3 := hres.c3
        have r4 := hres.c4
        clear hR hlt hres
        have HPN := Lib.hid hpn
        clear hpn
        go_wp2
        refine bodyPost_ret (v := .agg #[.int .i64 k, .bool i, .string x, .slice LA n lcap, .slice NA m.length ncap]) (by simp [results, Tryz.results101, go_sem, r0, r1, r2, r3, r4]) rfl ?_
        have e2 := HG2.out
        have hz := HZ2.out
        have hsz := HR.out.size
        have hT := (HR.out.names.same (five_same wr g2 (.int .i64 k) (.bool i) (.string x) (.slice LA n lcap) (.slice NA m.length ncap) (fun b hb => by have := hb.1; omega))).mono
          (S' := New w (five wr g2 (.int .i64 k) (.bool i) (.string x) (.slice LA n lcap) (.slice NA m.length ncap))) (fun b hb => ⟨by have := hb.1; omega, by rw [five_size]; have := hb.2; omega⟩)
        have hV : VS (five wr g2 (.int .i64 k) (.bool i) (.string x) (.slice LA n lcap) (.slice NA m.length ncap)) (New w (five wr g2 (.int .i64 k) (.bool i) (.string x) (.slice LA n lcap) (.slice NA m.length ncap))) LA n c := by
          rcases HR.out.row with h0 | ⟨gl, e, hgl, hrw⟩
          · exact .inl h0
          · subst e
            have h1 := hrw.VS (S' := fun b => z3 ≤ b ∧ b < wr.heap.size) ⟨hgl, hrw.lt⟩ (fun j b hj hb => by rw [if_pos (by have := HPN.out; omega)] at hb; exact ⟨hb.1, hb.2.1⟩)
            exact (h1.same (five_same wr g2 _ _ _ _ _ (fun b hb => by have := hb.1; omega))).mono (fun b hb => ⟨by have := hb.1; omega, by rw [five_size]; exact hb.2⟩)
        refine ⟨_, rfl, VAL.shut Hk.out hT hV, five_below HR.out.below g2 _ _ _ _ _ (by omega), ?_⟩
        intro v0 v1 v2 A5 n5 c5 v4 e5
        injection e5 with e5
        injection e5 with e5
        injection e5 with z0 e5; injection e5 with z1 e5; injection e5 with z2 e5; injection e5 with z3 e5
        injection z3 with z4 z5 z6
        subst z4 z5
        rcases HR.out.row with h0 | ⟨gl, e, hgl, hrw⟩
        · exact .inl h0
        · subst e
          exact .inr ⟨gl, 0, rfl, fun o => (World.frozen?_of_block (w := wr) (a := ⟨gl, o, none⟩) (five_same (S := (· = gl)) wr g2 _ _ _ _ _ (fun b hb => by have : b = gl := hb; omega) gl rfl)).trans (hrw.fr o)⟩
end Go.Proofs.YtfploakafbnigaaGreatDoor
namespace Go.Proofs.YtfploakafbnigaaGreatDoor
open Go.RowKit Val
set_option linter.unusedVariables false
set_option linter.unusedSimpArgs false
/-- the same, and its list may be written -/
def GotF (t : VT) (nm : ByteArray) (w : World) (e : Ending) (w' : World) : Prop := ∃ v', e = .returned (.tuple #[v', .bool (t.get nm).isSome]) ∧ VAL w' (New w w') (t.getD nm) v' ∧ Below w.heap.size w w' ∧ NF w' v'
theorem GotF.any {t : VT} {nm : ByteArray} {w w' : World} {e : Ending} (h : GotF t nm w e w') : Got t nm w e w' := by
  obtain ⟨v', h1, h2, h3, -⟩ := h
  exact ⟨v', h1, h2, h3⟩
theorem nul_NF (w : World) : NF w (.agg #[.int .i64 0, .bool false, .string ⟨#[]⟩, .slice none 0 0, .slice none 0 0]) := by
  intro v0 v1 v2 A n c v4 e
  injection e with e
  injection e with e
  injection e with z0 e; injection e with z1 e; injection e with z2 e; injection e with z3 e
  injection z3 with z4 z5 z6
  exact .inl z5.symm
set_option maxRecDepth 100000 in
set_option maxHeartbeats 4000000 in
theorem Get_nf (t : VT) (nm : ByteArray) (w : World) (S : Nat → Prop) (v : Value) (h : VAL w S t v) (hS : ∀ b, S b → b < w.heap.size) (hbk : t.bulk ≤ 1073741824) :
    Calls Tryz.prog 94 #[v, .string nm] w (GotF t nm w) := by
  obtain ⟨k, i, x, n, c, m, rfl⟩ := h.root
  obtain ⟨A, cap, A1, cap1, rfl, hk, hT, hV⟩ := h.open
  obtain ⟨hn, -, hm, -⟩ := VT.bulk_n k i x n c m
  have hn2 : n ≤ 1073741824 := by omega
  have hm2 : m.length ≤ 1073741824 := by omega
  have HK := Lib.hid (fun j hj => by have := VT.bulk_kid k i x n c m j hj; omega : ∀ j, j < n → (c j).bulk ≤ 1073741824)
  have HV := Lib.hid hV
  have HT := Lib.hid hT
  have HS := Lib.hid hS
  clear h hT hV hn hm hS hbk
  by_cases q1 : ¬ k = 5
  · have e1 : (k != 5) = true := by rw [bne_iff_ne]; exact q1
    have e2 : (k == 5) = false := by rw [beq_eq_false_iff_ne]; exact q1
    have HG := Lib.hid (show (VT.mk k i x n c m).get nm = none by unfold VT.get; rw [if_neg (show ¬ (VT.mk k i x n c m).kind = 5 from q1)])
    clear q1
    go_enter Tryz.func94, Tryz.ntmps94
    go_wp2
    exact bodyPost_ret (v := .tuple #[.agg #[.int .i64 0, .bool false, .string ⟨#[]⟩, .slice none 0 0, .slice none 0 0], .bool false]) (by simp [results, Tryz.results94, go_sem]) rfl
      ⟨_, by rw [HG.out]; rfl, by unfold VT.getD; rw [HG.out]; exact nul_VAL _ _, al2_below _ _ _, nul_NF _⟩
  replace q1 := Classical.not_not.1 q1
  subst q1
  have HG := Lib.hid (show (VT.mk 5 i x n c m).get nm = (VT.lastIdx m nm (min m.length n)).map c by unfold VT.get; rw [if_pos (show (VT.mk 5 i x n c m).kind = 5 from rfl)]; rfl)
  go_enter Tryz.func94, Tryz.ntmps94
  go_wp2_with fail
  generalize hg2 : w.heap.size + 1 = g2
  have HG2 := Lib.hid hg2
  clear hg2
  go_loopg [6] (min m.length n) (fun q v wr => v = .int .i64 ((q : Int) - 1) ∧ q ≤ m.length ∧ q ≤ n ∧ Below w.heap.size w wr ∧ BX wr w.heap.size (.int .i64 5) (.bool i) (.string x) (.slice A n cap) (.slice A1 m.length cap1) ∧
      BX wr g2 (.int .i64 0) (.bool false) (.string ⟨#[]⟩) (.slice none 0 0) (.slice none 0 0) ∧ VT.lastIdx m nm (min m.length n) = VT.lastIdx m nm q)
  case atStart =>
    have h2 := HG2.out
    subst h2
    exact ⟨by congr 1; omega, by omega, by omega, al2_below _ _ _, al2_0 _ _ _, al2_1 _ _ _, rfl⟩
  case round =>
    obtain ⟨rfl, hq1, hq2, hB, hX, hY, hI⟩ := hrel
    have HB := Lib.hid hB
    have HX := Lib.hid hX
    have HY := Lib.hid hY
    have HI := Lib.hid hI
    have x3 := hX.c3
    have x4 := hX.c4
    have y0 := hY.c0
    have y1 := hY.c1
    have y2 := hY.c2
    have y3 := hY.c3
    have y4 := hY.c4
    have f0 := hY.fr 0
    have f1 := hY.fr 1
    have f2 := hY.fr 2
    have f3 := hY.fr 3
    have f4 := hY.fr 4
    clear hX hY hI
    cases gk with
    | zero =>
      rw [show (((0 : Nat) : Int) - 1) = -1 from rfl]
      have HN := Lib.hid (show (VT.mk 5 i x n c m).get nm = none by rw [HG.out, HI.out]; rfl)
      clear hB
      go_wp2
      have hres := HY.out.put (.int .i64 0) (.bool false) (.string ⟨#[]⟩) (.slice none 0 0) (.slice none 0 0)
      have r0 := hres.c0
      have r1 := hres.c1
      have r2 := hres.c2
      have r3 := hres.c3
      have r4 := hres.c4
      exact bodyPost_ret (v := .tuple #[.agg #[.int .i64 0, .bool false, .string ⟨#[]⟩, .slice none 0 0, .slice none 0 0], .bool false]) (by simp [results, Tryz.results94, go_sem, r0, r1, r2, r3, r4]) rfl
        ⟨_, by rw [HN.out]; rfl, by unfold VT.getD; rw [HN.out]; exact nul_VAL _ _, by have := HG2.out; exact five_below HB.out g2 _ _ _ _ _ (by omega), nul_NF _⟩
    | succ p =>
      have hp1 : p < m.length := by omega
      have hp2 : p < n := by omega
      rw [show (((p + 1 : Nat) : Int) - 1) = (p : Int) by omega]
      have i1 : (0 : Int) ≤ p := by omega
      have i2 : (p : Int) < n := by omega
      have i3 : (p : Int) < m.length := by omega
      rcases HV.out.on HS.out hB with h0 | ⟨b, off, rfl, hbS, hc⟩
      · omega
      rcases HT.out.on HS.out hB with h0 | ⟨b', off', rfl, hbS', hc'⟩
      · subst h0; simp at hp1
      have k0 := hc' p hp1
      by_cases q2 : m[p] = nm
      · rw [q2] at k0
        have HN := Lib.hid (show (VT.mk 5 i x n c m).get nm = some (c p) by rw [HG.out, HI.out]; unfold VT.lastIdx; rw [List.getElem?_eq_getElem hp1, q2, if_pos rfl]; rfl)
        obtain ⟨e0, e1, e2, e3, e4, ⟨c0, c1, c2, c3, c4⟩, hr⟩ := hc p hp2
        have H1 := Lib.hid (Copy_nf (c p) wr S _ hr (fun b hb => Nat.lt_of_lt_of_le (HS.out b hb) hB.size) (HK.out p hp2))
        clear hc hc' hr q2 hB hq1 hq2
        go_wp2_with fail
        refine (H1.out).mono ?_
        rintro e w' ⟨v', rfl, hv, hb, hnf⟩
        obtain ⟨vk, vi, vx, VA, vn, vc, VA', vn', vc', rfl⟩ := hv.shape
        have HB2 := Lib.hid (HB.out.trans (hb.mono HB.out.size))
        have HY2 := Lib.hid (HY.out.on hb)
        have HZ := Lib.hid (show g2 < wr.heap.size from HY.out.lt)
        have HZ2 := Lib.hid (HB.out.size)
        clear y0 y1 y2 y3 y4 f0 f1 f2 f3 f4 c0 c1 c2 c3 c4 k0
        have y0 := HY2.out.c0
        have y1 := HY2.out.c1
        have y2 := HY2.out.c2
        have y3 := HY2.out.c3
        have y4 := HY2.out.c4
        have f0 := HY2.out.fr 0
        have f1 := HY2.out.fr 1
        have f2 := HY2.out.fr 2
        have f3 := HY2.out.fr 3
        have f4 := HY2.out.fr 4
        have HVV := Lib.hid hv
        have HNF := Lib.hid hnf
        clear hv hb hnf
        go_wp2
        have hres := HY2.out.put (.int .i64 vk) (.bool vi) (.string vx) (.slice VA vn vc) (.slice VA' vn' vc')
        have r0 := hres.c0
        have r1 := hres.c1
        have r2 := hres.c2
        have r3 := hres.c3
        have r4 := hres.c4
        exact bodyPost_ret (v := .tuple #[.agg #[.int .i64 vk, .bool vi, .string vx, .slice VA vn vc, .slice VA' vn' vc'], .bool true]) (by simp [results, Tryz.results94, go_sem, r0, r1, r2, r3, r4]) rfl
          ⟨_, by rw [HN.out]; rfl, by
            unfold VT.getD; rw [HN.out]
            exact (HVV.out.same (five_same w' g2 _ _ _ _ _ (fun b hb => by have := hb.1; have := HZ.out; omega))).mono (fun b hb => ⟨Nat.le_trans HZ2.out hb.1, Nat.lt_of_lt_of_eq hb.2 (five_size w' g2 _ _ _ _ _).symm⟩), by have := HG2.out; exact five_below HB2.out g2 _ _ _ _ _ (by omega), NF.same HNF.out HVV.out (five_same w' g2 _ _ _ _ _ (fun b hb => by have := hb.1; have := HZ.out; omega))⟩
      · obtain ⟨e1, e2⟩ := str_ne q2
        have HN := Lib.hid (show VT.lastIdx m nm (min m.length n) = VT.lastIdx m nm p by
          rw [HI.out]; conv => lhs; unfold VT.lastIdx
          rw [List.getElem?_eq_getElem hp1, if_neg (fun e => q2 (Option.some.inj e))])
        generalize m[p] = z at *
        clear hc hc' q2 hB
        go_wp2
        go_roundg p
        case measure => omega
        case rel => exact ⟨by go_num, by omega, by omega, HB.out, HX.out, HY.out, HN.out⟩
end Go.Proofs.YtfploakafbnigaaGreatDoor
