/-
  Joined texts: MkAllD.
-/
import Derived.Test.YthndgekjccclnaaGreatDoorPkMkF
import Derived.Test.YthndgekjccclnaaGreatDoorPkMkE
namespace Go.Proofs.YthndgekjccclnaaGreatDoor
open Go.RowKit Val Num Go.Proofs.YthndgekjccclnaaGreatDoorW.PrintLast
set_option linter.unusedVariables false
set_option linter.unusedSimpArgs false
/-- a diagnostic -/
structure Dg where
  a : Int
  b : Int
  c : Int
  d : Int
  k : Int
  s : ByteArray
def Dg.enc (x : Dg) : List Value := [.int .i64 x.a, .int .i64 x.b, .int .i64 x.c, .int .i64 x.d, .int .i64 x.k, .string x.s]
def Dg.tree (x : Dg) : VT := diagT x.a x.b x.c x.d x.k x.s
def Dg.ok (x : Dg) : Prop := I64 x.a ∧ I64 x.b ∧ I64 x.c ∧ I64 x.d ∧ I64 x.k

set_option maxRecDepth 100000 in
set_option maxHeartbeats 4000000 in
theorem all_D (l : List Dg) (w : World) (A : Option Addr) (cap : Nat) (hl : l.length ≤ 1048576) (he : ER 6 Dg.enc w (fun b => b < w.heap.size) A l) (hP : PTab w) (ho : ∀ x ∈ l, Dg.ok x) :
    Calls Tryz.prog 91 #[.slice A l.length cap, .func (.func 92) #[] #[]] w (Copied (lsT (l.map Dg.tree)) w) := by
  have HhP := Lib.hid hP
  have Hho := Lib.hid ho
  have HE := Lib.hid he
  obtain ⟨n, hn⟩ : ∃ n, l.length = n := ⟨_, rfl⟩
  have HN := Lib.hid hn
  rw [hn] at hl
  rw [hn]
  clear he hn hP ho
  obtain ⟨i0, hi0, hz0, hz1, hz2⟩ := info_parts Tryz.infoV
  have HI0 := Lib.hid hi0
  have HZ0 := Lib.hid hz0
  have HZ1 := Lib.hid hz1
  have HZ2 := Lib.hid hz2
  clear hi0 hz0 hz1 hz2
  have HAT : Hid (ALat w (w.heap.size + 2) w.heap.size (w.heap.size + 1)) := Lib.hid ⟨by omega, by omega, by omega, by omega, by omega⟩
  go_enter Tryz.func91, Tryz.ntmps91
  go_wp2_with fail
  go_loopg [11] n (fun q v wr => ∃ (p : Nat) (ov : Value) (xs : List Value), p + q = n ∧ v = .int .i64 p ∧ AL w (w.heap.size + 2) w.heap.size (w.heap.size + 1) (fun j => (l.map Dg.tree).getD j .leaf) p ov xs wr)
  case atStart => exact ⟨0, _, [], by omega, rfl, al2_0 w _ _, al2_1 w _ _, al2_below w _ _, World.ownsRow_nil _ _ _ _, VR.nil _ _ _, by simp⟩
  case round =>
    obtain ⟨p, ov, xs, hp, rfl, hM⟩ := hrel
    have HP := Lib.hid hp
    have HM := Lib.hid hM
    clear hp hM
    by_cases hlt : p < n
    · have hd0 : decide ((p : Int) < (n : Int)) = true := by simp; omega
      have hd1 : decide (p < n) = true := by simp; omega
      have hpl : p < l.length := by have := HN.out; omega
      rcases HE.out with h0 | ⟨b, off, rfl, hblt, hc⟩
      · subst h0; simp at hpl
      have hcc := hc p hpl
      have kk : ∀ o, wr.cell? ⟨b, o, none⟩ = w.cell? ⟨b, o, none⟩ := fun o => HM.out.below.cell (p := ⟨b, o, none⟩) hblt
      have i1 : (0 : Int) ≤ p := by omega
      have i2 : (p : Int) < n := by omega
      have HT : Hid ((fun j => (l.map Dg.tree).getD j .leaf) p = Dg.tree l[p]) := Lib.hid (by show (l.map Dg.tree).getD p .leaf = _; rw [List.getD_eq_getElem?_getD]; simp [hpl])
      have HOK := Lib.hid (Hho.out l[p] (List.getElem_mem hpl))
      generalize l[p] = x at *
      obtain ⟨a, b', c, d, k, s⟩ := x
      have k0 := (kk _).trans (hcc 0 _ rfl)
      have k1 := (kk _).trans (hcc 1 _ rfl)
      have k2 := (kk _).trans (hcc 2 _ rfl)
      have k3 := (kk _).trans (hcc 3 _ rfl)
      have k4 := (kk _).trans (hcc 4 _ rfl)
      have k5 := (kk _).trans (hcc 5 _ rfl)
      rw [Nat.add_zero] at k0
      clear kk hcc hc hlt hpl
      go_wp2_with fail
      have hba := (Below.refl wr.heap.size wr).alloc (Nat.le_refl _) (.cells #[.int .i64 a, .int .i64 b', .int .i64 c, .int .i64 d, .int .i64 k, .string s] 123)
      have HX : Hid (BK (wr.alloc (.cells #[.int .i64 a, .int .i64 b', .int .i64 c, .int .i64 d, .int .i64 k, .string s] 123)) wr.heap.size 123 #[.int .i64 a, .int .i64 b', .int .i64 c, .int .i64 d, .int .i64 k, .string s]) := Lib.hid (BK.new wr _ _)
      have HXo : Hid (ov.ownBlock ≠ some wr.heap.size ∧ w.heap.size + 2 ≤ wr.heap.size) := Lib.hid ⟨fun e => by have := (HM.out.own.lt _ e).2; omega, HM.out.size⟩
      replace HM := Lib.hid (HM.out.on hba)
      clear hba k0 k1 k2 k3 k4 k5
      generalize (wr.alloc (.cells #[.int .i64 a, .int .i64 b', .int .i64 c, .int .i64 d, .int .i64 k, .string s] 123)) = w1 at *
      generalize wr.heap.size = g5 at *
      refine start_ (n := 9) (S := ALS (w.heap.size + 1) g5 ov 123 #[.int .i64 a, .int .i64 b', .int .i64 c, .int .i64 d, .int .i64 k, .string s]) (ds := [8]) #[false, false, false, false, false, false, false, false, false] (by kernel_rfl) rfl rfl ⟨HM.out.out, HX.out⟩ (fun hHeld => ?_)
      have hbd : Below w1.heap.size w1 w1.drew := (Below.refl _ _).drew
      replace HM := Lib.hid (HM.out.on hbd)
      replace HX := Lib.hid (HX.out.on hbd)
      clear hbd
      generalize w1.drew = w2 at *
      refine pure_ (i := 0) (N := some 15) (v := ?_) (a' := ?_) #[true, false, false, false, false, false, false, false, false] rfl rfl (by kernel_rfl) (fun _ _ _ h => h) (Or.inl ⟨by rfl, ?_⟩) ?_ ?_
      rotate_left
      · intro w'; go_simp; with_reducible rfl
      rotate_left
      · simp only [Act.put, List.setIfInBounds_toArray, List.set_cons_zero, List.set_cons_succ, i64_w, i32_w]; rfl
      refine pure_ (i := 2) (N := some 17) (v := ?_) (a' := ?_) #[true, false, true, false, false, false, false, false, false] rfl rfl (by kernel_rfl) (fun _ _ _ h => h) (Or.inl ⟨by rfl, ?_⟩) ?_ ?_
      rotate_left
      · intro w'; go_simp; with_reducible rfl
      rotate_left
      · simp only [Act.put, List.setIfInBounds_toArray, List.set_cons_zero, List.set_cons_succ, i64_w, i32_w]; rfl
      refine take_ (i := 1) (N := some 16) (v := ?_) (a' := ?_) #[true, true, true, false, false, false, false, false, false] rfl rfl (by kernel_rfl) (fun _ _ _ h => h) (Or.inl ⟨by rfl, ?_⟩) hHeld ?_ ?_
      rotate_left
      · intro w' hh; have s3 := hh.box.c3; have t0 := hh.x.c 0 rfl; have t1 := hh.x.c 1 rfl; have t2 := hh.x.c 2 rfl; have t3 := hh.x.c 3 rfl; have t4 := hh.x.c 4 rfl; have t5 := hh.x.c 5 rfl; clear hh; go_simp; with_reducible rfl
      rotate_left
      · simp only [Act.put, List.setIfInBounds_toArray, List.set_cons_zero, List.set_cons_succ, i64_w, i32_w]; rfl
      refine take_ (i := 3) (N := some 18) (v := ?_) (a' := ?_) #[true, true, true, true, false, false, false, false, false] rfl rfl (by kernel_rfl) (fun _ _ _ h => h) (Or.inl ⟨by rfl, ?_⟩) hHeld ?_ ?_
      rotate_left
      · intro w' hh; have s3 := hh.box.c3; have t0 := hh.x.c 0 rfl; have t1 := hh.x.c 1 rfl; have t2 := hh.x.c 2 rfl; have t3 := hh.x.c 3 rfl; have t4 := hh.x.c 4 rfl; have t5 := hh.x.c 5 rfl; clear hh; go_simp; with_reducible rfl
      rotate_left
      · simp only [Act.put, List.setIfInBounds_toArray, List.set_cons_zero, List.set_cons_succ, i64_w, i32_w]; rfl
      refine one_ (i := 4) (N := some 19) #[true, true, true, true, true, false, false, false, false] rfl rfl (by kernel_rfl) (by decide) (fun K hK => ?_)
      refine goesV_ Tryz.func92 (by kernel_rfl) rfl #[.agg #[.int .i64 a, .int .i64 b', .int .i64 c, .int .i64 d, .int .i64 k, .string s]] (by rfl) rfl rfl (by rfl) (by (try simp only [List.map_toArray, List.map_cons, List.map_nil]); first | done | rfl) ?_
      have HBw := Lib.hid HM.out.below
      refine (pDiag a b' c d k s w2 HOK.out.1 HOK.out.2.1 HOK.out.2.2.1 HOK.out.2.2.2.1 HOK.out.2.2.2.2 (HhP.out.on HBw.out)).mono ?_
      rintro e w3 ⟨v', rfl, hv, hb⟩
      refine ⟨_, rfl, ?_⟩
      obtain ⟨v0, v1, v2, v3, v4, rfl⟩ := hv.five
      refine hK.out _ _ (hHeld.on hb) (fun hHeld2 => ?_)
      clear hK K hHeld
      have HV2 : Hid (VAL w3 (fun b => w.heap.size + 2 ≤ b ∧ b < w3.heap.size ∧ ov.ownBlock ≠ some b) _ (.agg #[v0, v1, v2, v3, v4])) := Lib.hid (hv.mono (fun b hb => ⟨Nat.le_trans HM.out.size hb.1, hb.2, fun e => by have := (HM.out.own.lt b e).2; have := hb.1; omega⟩))
      replace HM := Lib.hid (HM.out.on hb)
      replace HX := Lib.hid (HX.out.on hb)
      clear hb hv HBw
      refine norm_ (a' := ?_) ?_ ?_
      rotate_left
      · show Act.put _ (some 19) _ = _; simp only [Act.put, List.setIfInBounds_toArray, List.set_cons_zero, List.set_cons_succ, i64_w, i32_w]; rfl
      refine one_ (i := 5) (N := some 20) #[true, true, true, true, true, true, false, false, false] rfl rfl (by kernel_rfl) (by decide) (fun K hK => ?_)
      refine value_ (w1 := (w3.alloc (.cells #[v0, v1, v2, v3, v4] 30))) (v := .slice (some ⟨w3.heap.size, 0, none⟩) 1 1) rfl rfl ?_ ?_
      · go_simp
        all_goals first | rfl | (constructor <;> rfl)
      have hba := (Below.refl w3.heap.size w3).alloc (Nat.le_refl _) (.cells #[v0, v1, v2, v3, v4] 30)
      refine hK.out _ _ (hHeld2.on hba) (fun hHeld => ?_)
      clear hK K hHeld2
      have HN3 : Hid (BK (w3.alloc (.cells #[v0, v1, v2, v3, v4] 30)) w3.heap.size 30 #[v0, v1, v2, v3, v4]) := Lib.hid (BK.new w3 _ _)
      replace HV2 : Hid (VAL (w3.alloc (.cells #[v0, v1, v2, v3, v4] 30)) (fun b => w.heap.size + 2 ≤ b ∧ b < (w3.alloc (.cells #[v0, v1, v2, v3, v4] 30)).heap.size ∧ ov.ownBlock ≠ some b) _ (.agg #[v0, v1, v2, v3, v4])) := Lib.hid ((HV2.out.same (below_same hba (fun b hb => hb.2.1))).mono (fun b hb => ⟨hb.1, Nat.lt_of_lt_of_le hb.2.1 hba.size, hb.2.2⟩))
      replace HM := Lib.hid (HM.out.on hba)
      replace HX := Lib.hid (HX.out.on hba)
      clear hba
      refine norm_ (a' := ?_) ?_ ?_
      rotate_left
      · show Act.put _ (some 20) _ = _; simp only [Act.put, List.setIfInBounds_toArray, List.set_cons_zero, List.set_cons_succ, i64_w, i32_w]; rfl
      generalize (w3.alloc (.cells #[v0, v1, v2, v3, v4] 30)) = w4 at *
      generalize w3.heap.size = q3 at *
      refine one_ (i := 6) (N := some 21) #[true, true, true, true, true, true, true, false, false] rfl rfl (by kernel_rfl) (by decide) (fun K hK => ?_)
      refine step_append_lies _ rfl (.tmp 16) (.tmp 20) 28 rfl (w.heap.size + 2) 30 i0 _ 5 80 Tryz.underlying28 HI0.out HZ0.out HZ1.out HZ2.out rfl (by omega) ov p xs (by rfl) HM.out.own ⟨q3, 0, none⟩ 1 1 [v0, v1, v2, v3, v4] (by rfl) (by rfl) (World.news_of_block HN3.out) HV2.out.one (by omega)
        (by unfold maxLen; omega) (by omega) HM.out.size _ rfl ?_
      intro g ncap w5 hown hgrow hat hlt5
      have HM5 := Lib.hid (HM.out.grown HAT.out (Eq.mpr (congrArg (fun t => VAL w4 _ t (.agg #[v0, v1, v2, v3, v4])) HT.out) HV2.out) hown hgrow hat)
      have hO := HM.out.out.same (hgrow.block _ (by have := HM.out.size; omega) (own_ne HM.out.own (by omega)))
      refine hK.out _ _ ⟨hO, (hgrow.block _ HX.out.lt (fun e => HXo.out.1 e.symm)).trans HX.out⟩ (fun hHeld2 => ?_)
      clear hK K hHeld HM HX HV2 HN3 hown hgrow hat hlt5
      refine norm_ (a' := ?_) ?_ ?_
      rotate_left
      · show Act.put _ (some 21) _ = _; simp only [Act.put, List.setIfInBounds_toArray, List.set_cons_zero, List.set_cons_succ, i64_w, i32_w]; rfl
      refine pure_ (i := 7) (N := some 22) (v := ?_) (a' := ?_) #[true, true, true, true, true, true, true, true, false] rfl rfl (by kernel_rfl) (fun _ _ _ h => h) (Or.inl ⟨by rfl, ?_⟩) ?_ ?_
      rotate_left
      · intro w'; go_simp; with_reducible rfl
      rotate_left
      · simp only [Act.put, List.setIfInBounds_toArray, List.set_cons_zero, List.set_cons_succ, i64_w, i32_w]; rfl
      refine last_ (i := 8) (N := none) #[true, true, true, true, true, true, true, true, true] rfl rfl (by kernel_rfl) (by decide) (fun K hK => ?_)
      have f3 := hO.fr 3
      have s3 := hO.c3
      refine skip_ (w1 := w5.setCell ⟨w.heap.size + 1, 3, none⟩ (.slice (some ⟨g, 0, none⟩) (p + 1) ncap)) rfl rfl ?_ (hK.out _ _ ?_)
      · go_simp
        all_goals first | rfl | (constructor <;> rfl)
      clear hK K f3 s3 hO hHeld2
      generalize (w5.setCell ⟨w.heap.size + 1, 3, none⟩ (.slice (some ⟨g, 0, none⟩) (p + 1) ncap)) = w6 at *
      refine done_ (by kernel_rfl) ?_
      go_wp2
      go_roundg (gk - 1)
      case measure => have := HP.out; omega
      case rel => exact ⟨p + 1, _, _, by have := HP.out; omega, by go_num, HM5.out⟩
    · have hd1 : decide (p < n) = false := by simp; omega
      have hd2 : decide ((p : Int) < (n : Int)) = false := by simp; omega
      have hpn : p = n := by have := HP.out; omega
      subst hpn
      obtain ⟨OA, ocap, hov, hVV⟩ := HM.out.val
      subst hov
      have HVV := Lib.hid hVV
      have hg := HM.out.out
      have y0 := hg.c0
      have y1 := hg.c1
      have y2 := hg.c2
      have y3 := hg.c3
      have y4 := hg.c4
      have hz := HM.out.res
      have z0 := hz.c0
      have z1 := hz.c1
      have z2 := hz.c2
      have z3 := hz.c3
      have z4 := hz.c4
      have f0 := hz.fr 0
      have f1 := hz.fr 1
      have f2 := hz.fr 2
      have f3 := hz.fr 3
      have f4 := hz.fr 4
      have hres := hz.put (.int .i64 4) (.bool false) (.string ⟨#[]⟩) (.slice OA p ocap) (.slice none 0 0)
      have r0 := hres.c0
      have r1 := hres.c1
      have r2 := hres.c2
      have r3 := hres.c3
      have r4 := hres.c4
      clear hres hg hz hVV hlt
      go_wp2
      refine bodyPost_ret (v := .agg #[.int .i64 4, .bool false, .string ⟨#[]⟩, .slice OA p ocap, .slice none 0 0]) (by simp [results, Tryz.results91, go_sem, r0, r1, r2, r3, r4]) rfl ⟨_, rfl, ?_, five_below HM.out.below w.heap.size _ _ _ _ _ (Nat.le_refl _)⟩
      have hV := five_New (w := w) (u0 := .int .i64 4) (u1 := .bool false) (u2 := .string ⟨#[]⟩) (u3 := .slice OA p ocap) (u4 := .slice none 0 0) (g := w.heap.size) HVV.out (fun b hb => ⟨by have := hb.1; omega, hb.2, by have := hb.1; omega⟩)
      have e1 : (l.map Dg.tree).length = p := by rw [List.length_map]; exact HN.out
      show VAL _ _ (.mk 4 false .empty (l.map Dg.tree).length _ []) _
      rw [e1]
      exact hV

end Go.Proofs.YthndgekjccclnaaGreatDoor
