/-
  Layer 12, the walks: the document's Id, fault.
-/
import Derived.Test.YtfploakafbnigaaGreatDoorCRpcMake
import Derived.Test.YtfploakafbnigaaGreatDoorCRpcReadsPlain
import Derived.Test.YtfploakafbnigaaGreatDoorCPkMkT
namespace Go.Proofs.YtfploakafbnigaaGreatDoor
open Go.RowKit Val Num YtfploakafbnigaaGreatDoorW.PrintLast
set_option linter.unusedVariables false
set_option linter.unusedSimpArgs false
/-- the operation that stands next is that load -/
theorem isLd {P : Program} {ops : Array Oper} {rest : List Oper} {o : Oper} {a : Act} {w : World} {Q : Exit → Act → World → Prop} (ty : TypeId) (x : Tmp) (ho : o.op = .load ty (.tmp x)) (h : wpList P ops Q (o :: rest) a w) : wpList P ops Q (o :: rest) a w := h
/-- the operation that stands next is that store -/
theorem isSt {P : Program} {ops : Array Oper} {rest : List Oper} {o : Oper} {a : Act} {w : World} {Q : Exit → Act → World → Prop} (ty : TypeId) (x : Tmp) (y : Operand) (ho : o.op = .store ty (.tmp x) y) (h : wpList P ops Q (o :: rest) a w) : wpList P ops Q (o :: rest) a w := h
/-- between two blocks' numbers -/
def zMid (lo hi : Nat) : Zone where
  S := fun w b => lo ≤ b ∧ b < hi ∧ b < w.heap.size
  lt := fun _ _ h => h.2.2
  up := fun _ _ _ h hb => ⟨h.1, h.2.1, Nat.lt_of_lt_of_le h.2.2 hb.size⟩
theorem VLV.mid {B : Nat} {t : VT} {w : World} {v : Value} (h : VLV (zNew B) t w v) : VLV (zMid B w.heap.size) t w v := VAL.mono (fun b hb => ⟨hb.1, hb.2, hb.2⟩) h
theorem VLV.butM {lo hi : Nat} {t : VT} {w W : World} {v : Value} {g : Nat} (h : VLV (zMid lo hi) t w v) (hb : But g w W) (hg : g < lo ∨ hi ≤ g) : VLV (zMid lo hi) t W v :=
  VAL.mono (fun b hb' => ⟨hb'.1, hb'.2.1, Nat.lt_of_lt_of_le hb'.2.2 hb.size⟩) (VAL.same (hb.same (fun b hb' => ⟨hb'.2.2, by have h1 := hb'.1; have h2 := hb'.2.1; omega⟩)) h)
theorem VLV.unmid {lo hi B : Nat} {t : VT} {w : World} {v : Value} (h : VLV (zMid lo hi) t w v) (hB : B ≤ lo) : VLV (zNew B) t w v := VAL.mono (fun b hb => ⟨Nat.le_trans hB hb.1, hb.2.2⟩) h
/-- a message and an error's number, by the document -/
def MkV2 (m : MT) (x : Value) (w : World) (e : Ending) (w' : World) : Prop := ∃ v, e = .returned (.tuple #[v, x]) ∧ MSV (zNew w.heap.size) m w' v ∧ Below w.heap.size w w'
/-- a member by the document's Get, its tree and whether it is there as letters -/
theorem rgot_let (t : VT) (nm : ByteArray) (hk : t.bulk ≤ 1073741824) : ∃ (b : Bool) (u : VT), t.has nm = b ∧ t.getD nm = u ∧ u.bulk ≤ t.bulk + 1 ∧ (b = false → u = .nul) ∧ ∀ (w : World) (z : Zone) (v : Value), VLV z t w v →
    Calls Tryz.prog 98 #[v, .string nm] w fun e w' => ∃ v', e = .returned (.tuple #[v', .bool b]) ∧ VAL w' (New w w') u v' ∧ Below w.heap.size w w' :=
  ⟨_, _, rfl, rfl, VT.getD_bulk t nm, VT.getD_none, fun w z v h => refGet_any t nm w _ v h (z.lt w) hk⟩
set_option maxRecDepth 100000 in
set_option maxHeartbeats 8000000 in
theorem refId_any (t : VT) (z : Zone) (v : Value) (w : World) (h : VLV z t w v) (hbk : t.bulk ≤ 1073741824) : Calls Tryz.prog 99 #[v] w (Made (.bool t.idK) w) := by
  obtain ⟨A, n, cap, A', n', cap', rfl⟩ := h.parts
  have HI : Hid (t.idK = (decide (t.kind = 3) || (decide (t.kind = 2) && t.numOf.2))) := Lib.hid rfl
  have HN : Hid (∀ W, Calls Tryz.prog 137 #[.string t.text] W fun e w' => e = .returned (.tuple #[.int .i64 t.numOf.1, .bool t.numOf.2]) ∧ Below W.heap.size W w') := Lib.hid (fun W => refInt_any t.text _ rfl W (by have := VT.text_bulk t; have : t.text.data.toList.length = t.text.size := Array.length_toList; omega))
  clear h hbk
  generalize t.idK = R at *
  generalize t.kind = k at *
  generalize t.is = i at *
  generalize t.text = x at *
  generalize t.numOf.1 = nv at *
  generalize t.numOf.2 = nb at *
  by_cases k3 : k = 3
  · subst k3
    go_enter Tryz.func99, Tryz.ntmps99
    go_wp2
    go_ret
    exact ⟨ret_bool' (by rw [HI.out]; simp), made_end' w _⟩
  · have e3 := beq_f k3
    go_enter Tryz.func99, Tryz.ntmps99
    go_wp2_with fail
    refine at1 (fun W hX hB hz => ?_)
    refine (HN.out W).mono ?_
    rintro e w2 ⟨rfl, hb⟩
    have hx := hX.on hb
    have HB := Lib.hid (hB.trans (hb.mono hB.size))
    have y0 := hx.c 0 rfl
    clear hx hX hb hB hz
    by_cases k2 : k = 2
    · subst k2
      go_wp2
      go_ret
      exact ⟨ret_bool' (by rw [HI.out]; simp), HB.out⟩
    · have e2 := beq_f k2
      go_wp2
      go_ret
      exact ⟨ret_bool' (by rw [HI.out]; simp [k3, k2]), HB.out⟩
/-- what the document's reading asks -/
def rdOk (zV x2 bM zM bI q bP z4 z5 bR bE z0 eo : Bool) : Bool := !zV && (x2 && (match bM with
  | true => !zM && ((!bI || q) && (!bP || (!z4 || !z5)))
  | false => bI && ((bR != bE) && (match bR with
    | true => q
    | false => eo && (!z0 || q)))))
def rdM (bM bI bP bR : Bool) (uI uP uR : VT) (x : ByteArray) (nv : Int) (tx : ByteArray) : MT := match bM with
  | true => ⟨if bI then 1 else 2, uI, x, bP, uP, .nul, 0, .empty⟩
  | false => match bR with
    | true => ⟨3, uI, .empty, false, .nul, uR, 0, .empty⟩
    | false => ⟨4, uI, .empty, false, .nul, .nul, nv, tx⟩
theorem dec_bne (a b : Int) : decide (a = b) = !(a != b) := by
  by_cases h : a = b
  · subst h; simp
  · simp [h]
theorem str_twoS (x : ByteArray) : decide (x = VT.twoS) = (x.toList == [50, 46, 48]) := by
  by_cases h : x = VT.twoS
  · subst h; rw [decide_eq_true rfl, Lib.toList_data]; rfl
  · rw [decide_eq_false h]
    obtain ⟨x1, -⟩ := str_ne h
    unfold VT.twoS at x1
    have x3 : (x.toList == [50, 46, 48]) = false := by
      have hh := x1
      simp only [Lib.toList_data] at hh ⊢
      exact hh
    rw [x3]
def rErrOk (t : VT) : Bool := decide ((t.getD VT.codeN).kind = 2) && (t.getD VT.codeN).numOf.2 && decide ((t.getD VT.messageN).kind = 3)
theorem rd_msg (t : VT) : t.msgM = rdM (t.has VT.methodN) (t.has VT.idN) (t.has VT.paramsN) (t.has VT.resultN) (t.getD VT.idN) (t.getD VT.paramsN) (t.getD VT.resultN) (t.getD VT.methodN).text (t.err.getD VT.codeN).numOf.1 (t.err.getD VT.messageN).text := by
  unfold VT.msgM VT.askM VT.ansM rdM
  cases t.has VT.methodN <;> cases t.has VT.resultN <;> rfl
theorem rd_law (t : VT) (hc : t.check = 0) (hI : t.getD VT.idN ≠ .leaf) :
    t.msgOk = rdOk ((t.getD VT.rpcN).kind != 3) ((t.getD VT.rpcN).text.toList == [50, 46, 48]) (t.has VT.methodN) ((t.getD VT.methodN).kind != 3) (t.has VT.idN) (t.getD VT.idN).idK (t.has VT.paramsN) ((t.getD VT.paramsN).kind != 4) ((t.getD VT.paramsN).kind != 5) (t.has VT.resultN) (t.has VT.errorN) ((t.getD VT.idN).kind != 0) (rErrOk t.err) := by
  unfold VT.msgOk VT.headOk VT.askOk VT.ansOk VT.isList rdOk
  rw [VT.isId_checked (VT.check_getD hc _), VT.isNull_kind (VT.check_getD hc _) hI, decide_eq_true hc, str_twoS]
  simp only [dec_bne]
  rw [show t.errOk = rErrOk t.err from rfl]
  generalize ((t.getD VT.rpcN).kind != 3) = zV
  generalize ((t.getD VT.rpcN).text.toList == [50, 46, 48]) = x2
  generalize ((t.getD VT.methodN).kind != 3) = zM
  generalize (t.getD VT.idN).idK = q
  generalize ((t.getD VT.paramsN).kind != 4) = z4
  generalize ((t.getD VT.paramsN).kind != 5) = z5
  generalize ((t.getD VT.idN).kind != 0) = z0
  generalize rErrOk t.err = eo
  cases zV <;> cases x2 <;> cases t.has VT.methodN <;> cases t.has VT.resultN <;> simp [Bool.and_assoc, Bool.and_comm, Bool.and_left_comm, Bool.or_comm, Bool.or_left_comm]
set_option maxRecDepth 100000 in
set_option maxHeartbeats 8000000 in
theorem refFault_any (t : VT) (z : Zone) (v : Value) (w : World) (h : VLV z t w v) (hk : t.bulk ≤ 1073741800) : Calls Tryz.prog 100 #[v] w (fun e w' => e = .returned (.tuple #[.int .i64 (t.getD VT.codeN).numOf.1, .string (t.getD VT.messageN).text, .bool (rErrOk t)]) ∧ Below w.heap.size w w') := by
  obtain ⟨bC, uC, eC, fC, hkC, hnC, GC⟩ := rgot_let t VT.codeN (by omega)
  obtain ⟨bT, uT, eT, fT, hkT, hnT, GT⟩ := rgot_let t VT.messageN (by omega)
  have HOK : Hid (rErrOk t = (bC && bT && (uC.kind == 2) && uC.numOf.2 && (uT.kind == 3))) := Lib.hid (by
    unfold rErrOk
    rw [fC, fT]
    show ((uC.kind == 2) && uC.numOf.2 && (uT.kind == 3)) = _
    cases bC
    · rw [hnC rfl]; rfl
    · cases bT
      · rw [hnT rfl]; simp; intro _ _; decide
      · rfl)
  generalize rErrOk t = okv at *
  rw [fC, fT]
  obtain ⟨b2, hb2⟩ : ∃ b, (uC.kind == 2) = b := ⟨_, rfl⟩
  obtain ⟨b3, hb3⟩ : ∃ b, (uT.kind == 3) = b := ⟨_, rfl⟩
  obtain ⟨nv, hnv⟩ : ∃ n, uC.numOf.1 = n := ⟨_, rfl⟩
  obtain ⟨nw, hnw⟩ : ∃ n, uC.numOf.2 = n := ⟨_, rfl⟩
  rw [hb2, hb3, hnw] at HOK
  have HN : Hid (∀ W, Calls Tryz.prog 137 #[.string uC.text] W fun e w' => e = .returned (.tuple #[.int .i64 uC.numOf.1, .bool uC.numOf.2]) ∧ Below W.heap.size W w') := Lib.hid (fun W => refInt_any uC.text _ rfl W (by have := VT.text_bulk uC; have : uC.text.data.toList.length = uC.text.size := Array.length_toList; omega))
  rw [hnv, hnw] at HN
  rw [hnv]
  obtain ⟨At, nt, ct, Bt, mt, dt, rfl⟩ := h.parts
  have Ht := Lib.hid h.old
  have HB := Lib.hid (Below.refl w.heap.size w)
  have HQ : Hid (w.heap.size ≤ w.heap.size) := Lib.hid (Nat.le_refl _)
  clear h hk hkC hkT eC eT fC fT hnC hnT hnv hnw
  go_enter Tryz.func100, Tryz.ntmps100
  go_wp2_with fail
  refine at1 (fun w1 hX0 hb hz => ?_)
  replace Ht := Lib.hid (Ht.out.up hb)
  replace HB := Lib.hid (HB.out.trans (hb.mono HB.out.size))
  have HK := Lib.hid (Blks.one hX0)
  clear hX0 hb
  clear HQ
  have HQ := Lib.hid hz
  clear hz
  refine (GC w1 _ _ Ht.out).mono ?_
  rintro e w2 ⟨v', rfl, hv, hb⟩
  obtain ⟨AC, nC, cC, BC, mC, dC, rfl⟩ := VAL.parts hv
  clear hv
  replace Ht := Lib.hid (Ht.out.up hb)
  replace HQ := Lib.hid (Nat.le_trans HQ.out hb.size)
  replace HK := Lib.hid (HK.out.on hb)
  replace HB := Lib.hid (HB.out.trans (hb.mono HB.out.size))
  clear hb
  go_upto_region 2 with (fail)
  have HGgC := Lib.hid ((Blks.hd HK.out).lt)
  have hb : Below w2.heap.size w2 (w2.alloc (.cells #[.int .i64 uC.kind, .bool uC.is, .string uC.text, .slice AC nC cC, .slice BC mC dC] 25)) := made_end' w2 _
  replace Ht := Lib.hid (Ht.out.up hb)
  replace HQ := Lib.hid (Nat.le_trans HQ.out hb.size)
  replace HK := Lib.hid (HK.out.on hb)
  replace HB := Lib.hid (HB.out.trans (hb.mono HB.out.size))
  have hX0 : BK (w2.alloc (.cells #[.int .i64 uC.kind, .bool uC.is, .string uC.text, .slice AC nC cC, .slice BC mC dC] 25)) (w2.heap.size) 25 #[.int .i64 uC.kind, .bool uC.is, .string uC.text, .slice AC nC cC, .slice BC mC dC] := BK.new w2 _ _
  replace HK := Lib.hid (Blks.cons hX0 HK.out)
  clear hb hX0
  generalize (w2.alloc (.cells #[.int .i64 uC.kind, .bool uC.is, .string uC.text, .slice AC nC cC, .slice BC mC dC] 25)) = w3 at *
  generalize w2.heap.size = gC at *
  have hg := Blks.hd (Blks.tl HK.out)
  have y0 := hg.c 0 rfl
  have y1 := hg.c 1 rfl
  have y2 := hg.c 2 rfl
  have y3 := hg.c 3 rfl
  have y4 := hg.c 4 rfl
  clear hg
  go_wp2_with fail
  clear y0 y1 y2 y3 y4
  refine (GT w3 _ _ Ht.out).mono ?_
  rintro e w4 ⟨v', rfl, hv, hb⟩
  obtain ⟨AT, nT, cT, BT, mT, dT, rfl⟩ := VAL.parts hv
  clear hv
  replace Ht := Lib.hid (Ht.out.up hb)
  replace HQ := Lib.hid (Nat.le_trans HQ.out hb.size)
  replace HK := Lib.hid (HK.out.on hb)
  replace HB := Lib.hid (HB.out.trans (hb.mono HB.out.size))
  clear hb
  go_upto_region 3 with (fail)
  have HGgT := Lib.hid ((Blks.hd HK.out).lt)
  have hb : Below w4.heap.size w4 (w4.alloc (.cells #[.int .i64 uT.kind, .bool uT.is, .string uT.text, .slice AT nT cT, .slice BT mT dT] 25)) := made_end' w4 _
  replace Ht := Lib.hid (Ht.out.up hb)
  replace HQ := Lib.hid (Nat.le_trans HQ.out hb.size)
  replace HK := Lib.hid (HK.out.on hb)
  replace HB := Lib.hid (HB.out.trans (hb.mono HB.out.size))
  have hX0 : BK (w4.alloc (.cells #[.int .i64 uT.kind, .bool uT.is, .string uT.text, .slice AT nT cT, .slice BT mT dT] 25)) (w4.heap.size) 25 #[.int .i64 uT.kind, .bool uT.is, .string uT.text, .slice AT nT cT, .slice BT mT dT] := BK.new w4 _ _
  replace HK := Lib.hid (Blks.cons hX0 HK.out)
  clear hb hX0
  generalize (w4.alloc (.cells #[.int .i64 uT.kind, .bool uT.is, .string uT.text, .slice AT nT cT, .slice BT mT dT] 25)) = w5 at *
  generalize w4.heap.size = gT at *
  have hg := Blks.hd (Blks.tl HK.out)
  have y0 := hg.c 0 rfl
  have y1 := hg.c 1 rfl
  have y2 := hg.c 2 rfl
  have y3 := hg.c 3 rfl
  have y4 := hg.c 4 rfl
  clear hg
  go_wp2_with fail
  clear y0 y1 y2 y3 y4
  refine (HN.out w5).mono ?_
  rintro e w6 ⟨rfl, hb⟩
  replace Ht := Lib.hid (Ht.out.up hb)
  replace HQ := Lib.hid (Nat.le_trans HQ.out hb.size)
  replace HK := Lib.hid (HK.out.on hb)
  replace HB := Lib.hid (HB.out.trans (hb.mono HB.out.size))
  clear hb
  go_wp2_with fail
  have hcs : (bC = false) ∨ (bC = true ∧ bT = false) ∨ (bC = true ∧ bT = true ∧ b2 = false) ∨ (bC = true ∧ bT = true ∧ b2 = true ∧ nw = false) ∨ (bC = true ∧ bT = true ∧ b2 = true ∧ nw = true) := by
    clear hb2 hb3
    cases bC <;> cases bT <;> cases b2 <;> cases nw <;> simp
  rcases hcs with rfl | ⟨rfl, rfl⟩ | ⟨rfl, rfl, rfl⟩ | ⟨rfl, rfl, rfl, rfl⟩ | ⟨rfl, rfl, rfl, rfl⟩
  all_goals (
    have hb : Below w6.heap.size w6 w6.drew := (Below.refl _ _).drew
    refine start_ (n := 23) (S := Blks [⟨gT, 25, #[.int .i64 uT.kind, .bool uT.is, .string uT.text, .slice AT nT cT, .slice BT mT dT]⟩, ⟨gC, 25, #[.int .i64 uC.kind, .bool uC.is, .string uC.text, .slice AC nC cC, .slice BC mC dC]⟩]) (ds := []) #[false, false, false, false, false, false, false, false, false, false, false, false, false, false, false, false, false, false, false, false, false, false, false] (by kernel_rfl) rfl rfl (Blks.on (Blks.cons (Blks.hd HK.out) (Blks.one (Blks.hd (Blks.tl HK.out)))) hb) (fun hHeld => ?_)
    replace Ht := Lib.hid (Ht.out.up hb)
    replace HQ := Lib.hid (Nat.le_trans HQ.out hb.size)
    replace HK := Lib.hid (HK.out.on hb)
    replace HB := Lib.hid (HB.out.trans (hb.mono HB.out.size))
    clear hb
    generalize w6.drew = w7 at *
    refine pure_ (i := 0) (N := some 27) (v := ?_) (a' := ?_) #[true, false, false, false, false, false, false, false, false, false, false, false, false, false, false, false, false, false, false, false, false, false, false] rfl rfl (by kernel_rfl) (fun _ _ _ h => h) (Or.inl ⟨by rfl, ?_⟩) ?_ ?_
    rotate_left
    · intro w'; go_simp; with_reducible rfl
    rotate_left
    · simp only [Act.put, List.setIfInBounds_toArray, List.set_cons_zero, List.set_cons_succ, i64_w, i32_w]; rfl
    refine pure_ (i := 1) (N := some 28) (v := ?_) (a' := ?_) #[true, true, false, false, false, false, false, false, false, false, false, false, false, false, false, false, false, false, false, false, false, false, false] rfl rfl (by kernel_rfl) (fun _ _ _ h => h) (Or.inl ⟨by rfl, ?_⟩) ?_ ?_
    rotate_left
    · intro w'; go_simp; with_reducible rfl
    rotate_left
    · simp only [Act.put, List.setIfInBounds_toArray, List.set_cons_zero, List.set_cons_succ, i64_w, i32_w]; rfl
    refine take_ (i := 2) (N := some 29) (v := ?_) (a' := ?_) #[true, true, true, false, false, false, false, false, false, false, false, false, false, false, false, false, false, false, false, false, false, false, false] rfl rfl (by kernel_rfl) (fun _ _ _ h => h) (Or.inl ⟨by rfl, ?_⟩) hHeld ?_ ?_
    rotate_left
    · intro w' hh; have hg := Blks.hd hh; have t2 := hg.c 2 rfl; clear hh hg; go_simp; with_reducible rfl
    rotate_left
    · simp only [Act.put, List.setIfInBounds_toArray, List.set_cons_zero, List.set_cons_succ, i64_w, i32_w]; rfl
    refine pure_ (i := 3) (N := some 30) (v := ?_) (a' := ?_) #[true, true, true, true, false, false, false, false, false, false, false, false, false, false, false, false, false, false, false, false, false, false, false] rfl rfl (by kernel_rfl) (fun _ _ _ h => h) (Or.inl ⟨by rfl, ?_⟩) ?_ ?_
    rotate_left
    · intro w'; go_simp; with_reducible rfl
    rotate_left
    · simp only [Act.put, List.setIfInBounds_toArray, List.set_cons_zero, List.set_cons_succ, i64_w, i32_w]; rfl
    refine pure_ (i := 4) (N := some 31) (v := ?_) (a' := ?_) #[true, true, true, true, true, false, false, false, false, false, false, false, false, false, false, false, false, false, false, false, false, false, false] rfl rfl (by kernel_rfl) (fun _ _ _ h => h) (Or.inl ⟨by rfl, ?_⟩) ?_ ?_
    rotate_left
    · intro w'; go_simp; with_reducible rfl
    rotate_left
    · simp only [Act.put, List.setIfInBounds_toArray, List.set_cons_zero, List.set_cons_succ, i64_w, i32_w]; rfl
    first
    | (refine pure_ (i := 5) (N := some 32) (v := undef) #[true, true, true, true, true, true, false, false, false, false, false, false, false, false, false, false, false, false, false, false, false, false, false] rfl rfl (by kernel_rfl) (fun _ _ _ h => h) (Or.inr ⟨by rfl, rfl⟩) (by simp only [Act.put, List.setIfInBounds_toArray, List.set_cons_zero, List.set_cons_succ, i64_w, i32_w]; rfl) ?_)
    | (refine pure_ (i := 5) (N := some 32) (v := ?_) (a' := ?_) #[true, true, true, true, true, true, false, false, false, false, false, false, false, false, false, false, false, false, false, false, false, false, false] rfl rfl (by kernel_rfl) (fun _ _ _ h => h) (Or.inl ⟨by rfl, ?_⟩) ?_ ?_
       rotate_left
       · intro w'; go_simp; with_reducible rfl
       rotate_left
       · simp only [Act.put, List.setIfInBounds_toArray, List.set_cons_zero, List.set_cons_succ, i64_w, i32_w]; rfl)
    refine pure_ (i := 6) (N := some 33) (v := ?_) (a' := ?_) #[true, true, true, true, true, true, true, false, false, false, false, false, false, false, false, false, false, false, false, false, false, false, false] rfl rfl (by kernel_rfl) (fun _ _ _ h => h) (Or.inl ⟨by rfl, ?_⟩) ?_ ?_
    rotate_left
    · intro w'; go_simp; with_reducible rfl
    rotate_left
    · simp only [Act.put, List.setIfInBounds_toArray, List.set_cons_zero, List.set_cons_succ, i64_w, i32_w]; rfl
    refine pure_ (i := 7) (N := some 34) (v := ?_) (a' := ?_) #[true, true, true, true, true, true, true, true, false, false, false, false, false, false, false, false, false, false, false, false, false, false, false] rfl rfl (by kernel_rfl) (fun _ _ _ h => h) (Or.inl ⟨by rfl, ?_⟩) ?_ ?_
    rotate_left
    · intro w'; go_simp; with_reducible rfl
    rotate_left
    · simp only [Act.put, List.setIfInBounds_toArray, List.set_cons_zero, List.set_cons_succ, i64_w, i32_w]; rfl
    first
    | (refine pure_ (i := 8) (N := some 35) (v := undef) #[true, true, true, true, true, true, true, true, true, false, false, false, false, false, false, false, false, false, false, false, false, false, false] rfl rfl (by kernel_rfl) (fun _ _ _ h => h) (Or.inr ⟨by rfl, rfl⟩) (by simp only [Act.put, List.setIfInBounds_toArray, List.set_cons_zero, List.set_cons_succ, i64_w, i32_w]; rfl) ?_)
    | (refine pure_ (i := 8) (N := some 35) (v := ?_) (a' := ?_) #[true, true, true, true, true, true, true, true, true, false, false, false, false, false, false, false, false, false, false, false, false, false, false] rfl rfl (by kernel_rfl) (fun _ _ _ h => h) (Or.inl ⟨by rfl, ?_⟩) ?_ ?_
       rotate_left
       · intro w'; go_simp; with_reducible rfl
       rotate_left
       · simp only [Act.put, List.setIfInBounds_toArray, List.set_cons_zero, List.set_cons_succ, i64_w, i32_w]; rfl)
    first
    | (refine pure_ (i := 9) (N := some 36) (v := undef) #[true, true, true, true, true, true, true, true, true, true, false, false, false, false, false, false, false, false, false, false, false, false, false] rfl rfl (by kernel_rfl) (fun _ _ _ h => h) (Or.inr ⟨by rfl, rfl⟩) (by simp only [Act.put, List.setIfInBounds_toArray, List.set_cons_zero, List.set_cons_succ, i64_w, i32_w]; rfl) ?_)
    | (refine take_ (i := 9) (N := some 36) (v := ?_) (a' := ?_) #[true, true, true, true, true, true, true, true, true, true, false, false, false, false, false, false, false, false, false, false, false, false, false] rfl rfl (by kernel_rfl) (fun _ _ _ h => h) (Or.inl ⟨by rfl, ?_⟩) hHeld ?_ ?_
       rotate_left
       · intro w' hh; have hg := Blks.hd (Blks.tl hh); have t0 := hg.c 0 rfl; clear hh hg; go_simp; with_reducible rfl
       rotate_left
       · simp only [Act.put, List.setIfInBounds_toArray, List.set_cons_zero, List.set_cons_succ, i64_w, i32_w]; rfl)
    first
    | (refine pure_ (i := 10) (N := some 37) (v := undef) #[true, true, true, true, true, true, true, true, true, true, true, false, false, false, false, false, false, false, false, false, false, false, false] rfl rfl (by kernel_rfl) (fun _ _ _ h => h) (Or.inr ⟨by rfl, rfl⟩) (by simp only [Act.put, List.setIfInBounds_toArray, List.set_cons_zero, List.set_cons_succ, i64_w, i32_w]; rfl) ?_)
    | (refine pure_ (i := 10) (N := some 37) (v := ?_) (a' := ?_) #[true, true, true, true, true, true, true, true, true, true, true, false, false, false, false, false, false, false, false, false, false, false, false] rfl rfl (by kernel_rfl) (fun _ _ _ h => h) (Or.inl ⟨by rfl, ?_⟩) ?_ ?_
       rotate_left
       · intro w'; go_simp; with_reducible rfl
       rotate_left
       · simp only [Act.put, List.setIfInBounds_toArray, List.set_cons_zero, List.set_cons_succ, i64_w, i32_w]; rfl)
    refine pure_ (i := 11) (N := some 38) (v := ?_) (a' := ?_) #[true, true, true, true, true, true, true, true, true, true, true, true, false, false, false, false, false, false, false, false, false, false, false] rfl rfl (by kernel_rfl) (fun _ _ _ h => h) (Or.inl ⟨by rfl, ?_⟩) ?_ ?_
    rotate_left
    · intro w'; go_simp; with_reducible rfl
    rotate_left
    · simp only [Act.put, List.setIfInBounds_toArray, List.set_cons_zero, List.set_cons_succ, i64_w, i32_w]; rfl
    refine pure_ (i := 12) (N := some 39) (v := ?_) (a' := ?_) #[true, true, true, true, true, true, true, true, true, true, true, true, true, false, false, false, false, false, false, false, false, false, false] rfl rfl (by kernel_rfl) (fun _ _ _ h => h) (Or.inl ⟨by rfl, ?_⟩) ?_ ?_
    rotate_left
    · intro w'; go_simp; with_reducible rfl
    rotate_left
    · simp only [Act.put, List.setIfInBounds_toArray, List.set_cons_zero, List.set_cons_succ, i64_w, i32_w]; rfl
    first
    | (refine pure_ (i := 13) (N := some 40) (v := undef) #[true, true, true, true, true, true, true, true, true, true, true, true, true, true, false, false, false, false, false, false, false, false, false] rfl rfl (by kernel_rfl) (fun _ _ _ h => h) (Or.inr ⟨by rfl, rfl⟩) (by simp only [Act.put, List.setIfInBounds_toArray, List.set_cons_zero, List.set_cons_succ, i64_w, i32_w]; rfl) ?_)
    | (refine pure_ (i := 13) (N := some 40) (v := ?_) (a' := ?_) #[true, true, true, true, true, true, true, true, true, true, true, true, true, true, false, false, false, false, false, false, false, false, false] rfl rfl (by kernel_rfl) (fun _ _ _ h => h) (Or.inl ⟨by rfl, ?_⟩) ?_ ?_
       rotate_left
       · intro w'; go_simp; with_reducible rfl
       rotate_left
       · simp only [Act.put, List.setIfInBounds_toArray, List.set_cons_zero, List.set_cons_succ, i64_w, i32_w]; rfl)
    refine pure_ (i := 14) (N := some 41) (v := ?_) (a' := ?_) #[true, true, true, true, true, true, true, true, true, true, true, true, true, true, true, false, false, false, false, false, false, false, false] rfl rfl (by kernel_rfl) (fun _ _ _ h => h) (Or.inl ⟨by rfl, ?_⟩) ?_ ?_
    rotate_left
    · intro w'; go_simp; with_reducible rfl
    rotate_left
    · simp only [Act.put, List.setIfInBounds_toArray, List.set_cons_zero, List.set_cons_succ, i64_w, i32_w]; rfl
    refine pure_ (i := 15) (N := some 42) (v := ?_) (a' := ?_) #[true, true, true, true, true, true, true, true, true, true, true, true, true, true, true, true, false, false, false, false, false, false, false] rfl rfl (by kernel_rfl) (fun _ _ _ h => h) (Or.inl ⟨by rfl, ?_⟩) ?_ ?_
    rotate_left
    · intro w'; go_simp; with_reducible rfl
    rotate_left
    · simp only [Act.put, List.setIfInBounds_toArray, List.set_cons_zero, List.set_cons_succ, i64_w, i32_w]; rfl
    first
    | (refine pure_ (i := 16) (N := some 43) (v := undef) #[true, true, true, true, true, true, true, true, true, true, true, true, true, true, true, true, true, false, false, false, false, false, false] rfl rfl (by kernel_rfl) (fun _ _ _ h => h) (Or.inr ⟨by rfl, rfl⟩) (by simp only [Act.put, List.setIfInBounds_toArray, List.set_cons_zero, List.set_cons_succ, i64_w, i32_w]; rfl) ?_)
    | (refine pure_ (i := 16) (N := some 43) (v := ?_) (a' := ?_) #[true, true, true, true, true, true, true, true, true, true, true, true, true, true, true, true, true, false, false, false, false, false, false] rfl rfl (by kernel_rfl) (fun _ _ _ h => h) (Or.inl ⟨by rfl, ?_⟩) ?_ ?_
       rotate_left
       · intro w'; go_simp; with_reducible rfl
       rotate_left
       · simp only [Act.put, List.setIfInBounds_toArray, List.set_cons_zero, List.set_cons_succ, i64_w, i32_w]; rfl)
    first
    | (refine pure_ (i := 17) (N := some 44) (v := undef) #[true, true, true, true, true, true, true, true, true, true, true, true, true, true, true, true, true, true, false, false, false, false, false] rfl rfl (by kernel_rfl) (fun _ _ _ h => h) (Or.inr ⟨by rfl, rfl⟩) (by simp only [Act.put, List.setIfInBounds_toArray, List.set_cons_zero, List.set_cons_succ, i64_w, i32_w]; rfl) ?_)
    | (refine take_ (i := 17) (N := some 44) (v := ?_) (a' := ?_) #[true, true, true, true, true, true, true, true, true, true, true, true, true, true, true, true, true, true, false, false, false, false, false] rfl rfl (by kernel_rfl) (fun _ _ _ h => h) (Or.inl ⟨by rfl, ?_⟩) hHeld ?_ ?_
       rotate_left
       · intro w' hh; have hg := Blks.hd hh; have t0 := hg.c 0 rfl; clear hh hg; go_simp; with_reducible rfl
       rotate_left
       · simp only [Act.put, List.setIfInBounds_toArray, List.set_cons_zero, List.set_cons_succ, i64_w, i32_w]; rfl)
    first
    | (refine pure_ (i := 18) (N := some 45) (v := undef) #[true, true, true, true, true, true, true, true, true, true, true, true, true, true, true, true, true, true, true, false, false, false, false] rfl rfl (by kernel_rfl) (fun _ _ _ h => h) (Or.inr ⟨by rfl, rfl⟩) (by simp only [Act.put, List.setIfInBounds_toArray, List.set_cons_zero, List.set_cons_succ, i64_w, i32_w]; rfl) ?_)
    | (refine pure_ (i := 18) (N := some 45) (v := ?_) (a' := ?_) #[true, true, true, true, true, true, true, true, true, true, true, true, true, true, true, true, true, true, true, false, false, false, false] rfl rfl (by kernel_rfl) (fun _ _ _ h => h) (Or.inl ⟨by rfl, ?_⟩) ?_ ?_
       rotate_left
       · intro w'; go_simp; with_reducible rfl
       rotate_left
       · simp only [Act.put, List.setIfInBounds_toArray, List.set_cons_zero, List.set_cons_succ, i64_w, i32_w]; rfl)
    refine pure_ (i := 19) (N := some 46) (v := ?_) (a' := ?_) #[true, true, true, true, true, true, true, true, true, true, true, true, true, true, true, true, true, true, true, true, false, false, false] rfl rfl (by kernel_rfl) (fun _ _ _ h => h) (Or.inl ⟨by rfl, ?_⟩) ?_ ?_
    rotate_left
    · intro w'; go_simp; with_reducible rfl
    rotate_left
    · simp only [Act.put, List.setIfInBounds_toArray, List.set_cons_zero, List.set_cons_succ, i64_w, i32_w]; rfl
    refine pure_ (i := 20) (N := some 2) (v := ?_) (a' := ?_) #[true, true, true, true, true, true, true, true, true, true, true, true, true, true, true, true, true, true, true, true, true, false, false] rfl rfl (by kernel_rfl) (fun _ _ _ h => h) (Or.inl ⟨by rfl, ?_⟩) ?_ ?_
    rotate_left
    · intro w'; go_simp; with_reducible rfl
    rotate_left
    · simp only [Act.put, List.setIfInBounds_toArray, List.set_cons_zero, List.set_cons_succ, i64_w, i32_w]; rfl
    refine pure_ (i := 21) (N := some 3) (v := ?_) (a' := ?_) #[true, true, true, true, true, true, true, true, true, true, true, true, true, true, true, true, true, true, true, true, true, true, false] rfl rfl (by kernel_rfl) (fun _ _ _ h => h) (Or.inl ⟨by rfl, ?_⟩) ?_ ?_
    rotate_left
    · intro w'; go_simp; with_reducible rfl
    rotate_left
    · simp only [Act.put, List.setIfInBounds_toArray, List.set_cons_zero, List.set_cons_succ, i64_w, i32_w]; rfl
    refine pure_ (i := 22) (N := some 4) (v := ?_) (a' := ?_) #[true, true, true, true, true, true, true, true, true, true, true, true, true, true, true, true, true, true, true, true, true, true, true] rfl rfl (by kernel_rfl) (fun _ _ _ h => h) (Or.inl ⟨by rfl, ?_⟩) ?_ ?_
    rotate_left
    · intro w'; go_simp; with_reducible rfl
    rotate_left
    · simp only [Act.put, List.setIfInBounds_toArray, List.set_cons_zero, List.set_cons_succ, i64_w, i32_w]; rfl
    refine done_ (by kernel_rfl) ?_
    go_wp2
    exact bodyPost_ret (v := .tuple #[.int .i64 nv, .string uT.text, .bool okv]) (by rw [HOK.out]; simp [results, Tryz.results100, go_sem]) rfl ⟨rfl, HB.out⟩)
end Go.Proofs.YtfploakafbnigaaGreatDoor
