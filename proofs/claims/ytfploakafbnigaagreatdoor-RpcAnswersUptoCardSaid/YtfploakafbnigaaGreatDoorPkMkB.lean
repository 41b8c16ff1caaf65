/-
  Joined texts: MkObj.
-/
import Derived.Test.YtfploakafbnigaaGreatDoorPkMkA
import Derived.Test.YtfploakafbnigaaGreatDoorWLast
import Derived.Deep.AppendLies
namespace Go.Proofs.YtfploakafbnigaaGreatDoor
open Go.RowKit Val Go.Proofs.YtfploakafbnigaaGreatDoorW.PrintLast
set_option linter.unusedVariables false
set_option linter.unusedSimpArgs false
/-- what the drawn region reads -/
structure OS (g3 g5 : Nat) (nv ov : Value) (nm : ByteArray) (v0 v1 v2 v3 v4 : Value) (w : World) : Prop where
  box : BX w g3 (.int .i64 5) (.bool false) (.string ⟨#[]⟩) ov nv
  x : BK w g5 110 #[.string nm, v0, v1, v2, v3, v4]
theorem OS.same {g3 g5 : Nat} {nv ov : Value} {nm : ByteArray} {v0 v1 v2 v3 v4 : Value} {w w' : World} (h : OS g3 g5 nv ov nm v0 v1 v2 v3 v4 w) (h3 : w'.heap[g3]? = w.heap[g3]?) (h5 : w'.heap[g5]? = w.heap[g5]?) : OS g3 g5 nv ov nm v0 v1 v2 v3 v4 w' := ⟨h.box.same h3, h5.trans h.x⟩
theorem OS.on {g3 g5 : Nat} {nv ov : Value} {nm : ByteArray} {v0 v1 v2 v3 v4 : Value} {w w' : World} (h : OS g3 g5 nv ov nm v0 v1 v2 v3 v4 w) (hb : Below w.heap.size w w') : OS g3 g5 nv ov nm v0 v1 v2 v3 v4 w' := h.same (hb.block _ h.box.lt) (hb.block _ h.x.lt)
theorem ObM.new (w : World) : ObM w (.slice none 0 0) (.slice none 0 0) (.slice none 0 0) (.slice none 0 0) 0 0 [] [] ((w.alloc (.cells #[.int .i64 0, .bool false, .string ⟨#[]⟩, .slice none 0 0, .slice none 0 0] 25)).alloc (.cells #[.int .i64 5, .bool false, .string ⟨#[]⟩, .slice none 0 0, .slice none 0 0] 25)) where
  res := al2_0 w _ _
  out := al2_1 w _ _
  below := al2_below w _ _
  nown := World.ownsRow_nil _ _ _ _
  oown := World.ownsRow_nil _ _ _ _
  apart := fun _ h => by cases h
  size := by simp
theorem own_slice {w : World} {base e size n : Nat} {v : Value} {xs : List Value} (h : w.ownsRow base e size v n xs) : ∃ A c, v = .slice A n c := by
  rcases h.2 with ⟨rfl, rfl⟩ | ⟨g, cap, cur, rfl, -⟩
  · exact ⟨_, _, rfl⟩
  · exact ⟨_, _, rfl⟩
theorem take_map1 {l : List (ByteArray × VT)} {p : Nat} (h : p < l.length) : (l.take (p + 1)).map (fun x => Value.string x.1) = (l.take p).map (fun x => Value.string x.1) ++ [.string l[p].1] := by
  rw [List.take_succ_eq_append_getElem h, List.map_append]; rfl
set_option maxRecDepth 100000 in
set_option maxHeartbeats 4000000 in
theorem pObject_any {B : Nat} (l : List (ByteArray × VT)) (w : World) (v : Value) (hB : B ≤ w.heap.size) (h : PSV (zNew B) l w v) (hl : l.length ≤ 1048576) :
    Calls Tryz.prog 69 #[v] w (Mk (zNew B) (obT (l.map (·.1)) (l.map (·.2))) w) := by
  obtain ⟨A, cap, rfl, hc⟩ := h
  have HC := Lib.hid hc
  have HBB := Lib.hid hB
  obtain ⟨n, hn⟩ : ∃ n, l.length = n := ⟨_, rfl⟩
  have HN := Lib.hid hn
  rw [hn] at hl
  rw [hn]
  clear hc hB hn
  obtain ⟨i0, hi0, hz0, hz1, hz2⟩ := info_parts Tryz.infoV
  have HI0 := Lib.hid hi0
  have HZ0 := Lib.hid hz0
  have HZ1 := Lib.hid hz1
  have HZ2 := Lib.hid hz2
  obtain ⟨j0, hj0, hy0, hy1, hy2⟩ := info_parts Tryz.infoS
  have HJ0 := Lib.hid hj0
  have HJZ0 := Lib.hid hy0
  have HJZ1 := Lib.hid hy1
  have HJZ2 := Lib.hid hy2
  clear hi0 hz0 hz1 hz2 hj0 hy0 hy1 hy2
  go_enter Tryz.func69, Tryz.ntmps69
  go_wp2_with fail
  go_loopg [9] n (fun q v wr => ∃ (p : Nat) (nv ov : Value) (ns xs : List Value), p + q = n ∧ v = .int .i64 p ∧ ObM w nv ov nv ov p p ns xs wr ∧ ns = (l.take p).map (fun x => Value.string x.1) ∧ VR w ((zNew B).S w) xs p (fun j => (l.map (·.2)).getD j .leaf))
  case atStart =>
    exact ⟨0, _, _, [], [], by omega, rfl, ObM.new w, by simp, VR.nil _ _ _⟩
  case round =>
    obtain ⟨p, nv, ov, ns, xs, hp, rfl, hM, hns, hvr⟩ := hrel
    have HP := Lib.hid hp
    have HM := Lib.hid hM
    have HNS := Lib.hid hns
    have HVR := Lib.hid hvr
    clear hp hM hns hvr
    by_cases hlt : p < n
    · have hd0 : decide ((p : Int) < (n : Int)) = true := by simp; omega
      have hd1 : decide (p < n) = true := by simp; omega
      have hpl : p < l.length := by have := HN.out; omega
      rcases HC.out with h0 | ⟨b, off, rfl, hbS, hc⟩
      · subst h0; simp at hpl
      obtain ⟨v0, v1, v2, v3, v4, e0, e1, e2, e3, e4, e5, hv⟩ := hc p hpl
      have hblt : b < w.heap.size := (zNew B).lt _ _ hbS
      have kk : ∀ o, wr.cell? ⟨b, o, none⟩ = w.cell? ⟨b, o, none⟩ := fun o => HM.out.below.cell (p := ⟨b, o, none⟩) hblt
      have k0 := (kk _).trans e0
      have k1 := (kk _).trans e1
      have k2 := (kk _).trans e2
      have k3 := (kk _).trans e3
      have k4 := (kk _).trans e4
      have k5 := (kk _).trans e5
      have HNS2 : Hid (ns ++ [.string l[p].1] = (l.take (p + 1)).map (fun x => Value.string x.1)) := Lib.hid (by rw [HNS.out, take_map1 hpl])
      have HVR2 := Lib.hid (HVR.out.snoc (c := fun j => (l.map (·.2)).getD j .leaf) (p := p) (by rw [show (l.map (·.2)).getD p .leaf = l[p].2 by rw [List.getD_eq_getElem?_getD]; simp [hpl]]; exact hv))
      have HONE := Lib.hid (VAL.one hv)
      obtain ⟨kz, iz, xz, Az, nz, cz, Bz, mz, dz, ez⟩ := VAL.shape hv
      injection ez with ez
      injection ez with ez
      injection ez with z0 ez; injection ez with z1 ez; injection ez with z2 ez; injection ez with z3 ez; injection ez with z4 ez
      subst z0; subst z1; subst z2; subst z3; subst z4
      have i1 : (0 : Int) ≤ p := by omega
      have i2 : (p : Int) < n := by omega
      generalize l[p].1 = nm at *
      clear kk e0 e1 e2 e3 e4 e5 hc hv hlt hpl ez
      go_wp2_with fail
      generalize Value.int .i64 kz = v0 at *
      generalize Value.bool iz = v1 at *
      generalize Value.string xz = v2 at *
      generalize Value.slice Az nz cz = v3 at *
      generalize Value.slice Bz mz dz = v4 at *
      have hba := (Below.refl wr.heap.size wr).alloc (Nat.le_refl _) (.cells #[.string nm, v0, v1, v2, v3, v4] 110)
      have HX := Lib.hid (TB.new HM.out 110 #[.string nm, v0, v1, v2, v3, v4])
      replace HM := Lib.hid (HM.out.on hba)
      clear hba k0 k1 k2 k3 k4 k5
      generalize (wr.alloc (.cells #[.string nm, v0, v1, v2, v3, v4] 110)) = w1 at *
      generalize wr.heap.size = g5 at *
      refine start_ (n := 16) (S := OS (w.heap.size + 1) g5 nv ov nm v0 v1 v2 v3 v4) (ds := [13, 15]) #[false, false, false, false, false, false, false, false, false, false, false, false, false, false, false, false] (by kernel_rfl) rfl rfl ⟨HM.out.out, HX.out.bk⟩ (fun hHeld => ?_)
      have hbd : Below w1.heap.size w1 w1.drew := (Below.refl _ _).drew
      replace HM := Lib.hid (HM.out.on hbd)
      replace HX := Lib.hid (HX.out.on hbd)
      clear hbd
      generalize w1.drew = w2 at *
      refine pure_ (i := 0) (N := some 13) (v := ?_) (a' := ?_) #[true, false, false, false, false, false, false, false, false, false, false, false, false, false, false, false] rfl rfl (by kernel_rfl) (fun _ _ _ h => h) (Or.inl ⟨by rfl, ?_⟩) ?_ ?_
      rotate_left
      · intro w'; go_simp; with_reducible rfl
      rotate_left
      · simp only [Act.put, List.setIfInBounds_toArray, List.set_cons_zero, List.set_cons_succ, i64_w, i32_w]; rfl
      refine pure_ (i := 2) (N := some 15) (v := ?_) (a' := ?_) #[true, false, true, false, false, false, false, false, false, false, false, false, false, false, false, false] rfl rfl (by kernel_rfl) (fun _ _ _ h => h) (Or.inl ⟨by rfl, ?_⟩) ?_ ?_
      rotate_left
      · intro w'; go_simp; with_reducible rfl
      rotate_left
      · simp only [Act.put, List.setIfInBounds_toArray, List.set_cons_zero, List.set_cons_succ, i64_w, i32_w]; rfl
      refine pure_ (i := 6) (N := some 19) (v := ?_) (a' := ?_) #[true, false, true, false, false, false, true, false, false, false, false, false, false, false, false, false] rfl rfl (by kernel_rfl) (fun _ _ _ h => h) (Or.inl ⟨by rfl, ?_⟩) ?_ ?_
      rotate_left
      · intro w'; go_simp; with_reducible rfl
      rotate_left
      · simp only [Act.put, List.setIfInBounds_toArray, List.set_cons_zero, List.set_cons_succ, i64_w, i32_w]; rfl
      refine pure_ (i := 8) (N := some 21) (v := ?_) (a' := ?_) #[true, false, true, false, false, false, true, false, true, false, false, false, false, false, false, false] rfl rfl (by kernel_rfl) (fun _ _ _ h => h) (Or.inl ⟨by rfl, ?_⟩) ?_ ?_
      rotate_left
      · intro w'; go_simp; with_reducible rfl
      rotate_left
      · simp only [Act.put, List.setIfInBounds_toArray, List.set_cons_zero, List.set_cons_succ, i64_w, i32_w]; rfl
      refine take_ (i := 1) (N := some 14) (v := ?_) (a' := ?_) #[true, true, true, false, false, false, true, false, true, false, false, false, false, false, false, false] rfl rfl (by kernel_rfl) (fun _ _ _ h => h) (Or.inl ⟨by rfl, ?_⟩) hHeld ?_ ?_
      rotate_left
      · intro w' hh; have s3 := hh.box.c3; have s4 := hh.box.c4; have t0 := hh.x.c 0 rfl; have t1 := hh.x.c 1 rfl; have t2 := hh.x.c 2 rfl; have t3 := hh.x.c 3 rfl; have t4 := hh.x.c 4 rfl; have t5 := hh.x.c 5 rfl; clear hh; go_simp; with_reducible rfl
      rotate_left
      · simp only [Act.put, List.setIfInBounds_toArray, List.set_cons_zero, List.set_cons_succ, i64_w, i32_w]; rfl
      refine take_ (i := 3) (N := some 16) (v := ?_) (a' := ?_) #[true, true, true, true, false, false, true, false, true, false, false, false, false, false, false, false] rfl rfl (by kernel_rfl) (fun _ _ _ h => h) (Or.inl ⟨by rfl, ?_⟩) hHeld ?_ ?_
      rotate_left
      · intro w' hh; have s3 := hh.box.c3; have s4 := hh.box.c4; have t0 := hh.x.c 0 rfl; have t1 := hh.x.c 1 rfl; have t2 := hh.x.c 2 rfl; have t3 := hh.x.c 3 rfl; have t4 := hh.x.c 4 rfl; have t5 := hh.x.c 5 rfl; clear hh; go_simp; with_reducible rfl
      rotate_left
      · simp only [Act.put, List.setIfInBounds_toArray, List.set_cons_zero, List.set_cons_succ, i64_w, i32_w]; rfl
      refine take_ (i := 7) (N := some 20) (v := ?_) (a' := ?_) #[true, true, true, true, false, false, true, true, true, false, false, false, false, false, false, false] rfl rfl (by kernel_rfl) (fun _ _ _ h => h) (Or.inl ⟨by rfl, ?_⟩) hHeld ?_ ?_
      rotate_left
      · intro w' hh; have s3 := hh.box.c3; have s4 := hh.box.c4; have t0 := hh.x.c 0 rfl; have t1 := hh.x.c 1 rfl; have t2 := hh.x.c 2 rfl; have t3 := hh.x.c 3 rfl; have t4 := hh.x.c 4 rfl; have t5 := hh.x.c 5 rfl; clear hh; go_simp; with_reducible rfl
      rotate_left
      · simp only [Act.put, List.setIfInBounds_toArray, List.set_cons_zero, List.set_cons_succ, i64_w, i32_w]; rfl
      refine take_ (i := 9) (N := some 22) (v := ?_) (a' := ?_) #[true, true, true, true, false, false, true, true, true, true, false, false, false, false, false, false] rfl rfl (by kernel_rfl) (fun _ _ _ h => h) (Or.inl ⟨by rfl, ?_⟩) hHeld ?_ ?_
      rotate_left
      · intro w' hh; have s3 := hh.box.c3; have s4 := hh.box.c4; have t0 := hh.x.c 0 rfl; have t1 := hh.x.c 1 rfl; have t2 := hh.x.c 2 rfl; have t3 := hh.x.c 3 rfl; have t4 := hh.x.c 4 rfl; have t5 := hh.x.c 5 rfl; clear hh; go_simp; with_reducible rfl
      rotate_left
      · simp only [Act.put, List.setIfInBounds_toArray, List.set_cons_zero, List.set_cons_succ, i64_w, i32_w]; rfl
      refine join_ (σ := Value × Value × Value × Value) 3 #[true, true, true, true, true, true, true, true, true, true, true, true, true, false, false, false] (fun s => [(17, s.1), (18, s.2.1), (23, s.2.2.1), (24, s.2.2.2), (25, .pointer (some ⟨w.heap.size + 1, 4, none⟩))]) (fun s w' => ObM w nv ov s.2.1 s.2.2.2 (p + 1) (p + 1) (ns ++ [.string nm]) (xs ++ [v0, v1, v2, v3, v4]) w' ∧ OS (w.heap.size + 1) g5 nv ov nm v0 v1 v2 v3 v4 w') ?_ ?_
      rotate_left
      · intro hJ
        have HJ := Lib.hid hJ
        clear hJ
        refine two_ (i := 4) (j := 10) (Ni := some 17) (Nj := some 23) #[true, true, true, true, true, false, true, true, true, true, false, false, false, false, false, false] #[true, true, true, true, false, false, true, true, true, true, true, false, false, false, false, false] rfl rfl rfl rfl (by kernel_rfl) (by decide) (by decide) (fun K hK => ?_) (fun K hK => ?_)
        · skip
          refine value_ (w1 := (w2.alloc (.cells #[.string nm] 9))) (v := .slice (some ⟨w2.heap.size, 0, none⟩) 1 1) rfl rfl ?_ ?_
          · go_simp
            all_goals first | rfl | (constructor <;> rfl)
          have hba := (Below.refl w2.heap.size w2).alloc (Nat.le_refl _) (.cells #[.string nm] 9)
          refine hK.out _ _ (hHeld.on hba) (fun hHeld2 => ?_)
          clear hK K hHeld
          have hHeld := hHeld2
          clear hHeld2
          have Hqa := Lib.hid (TB.new HM.out 9 #[.string nm])
          replace HM := Lib.hid (HM.out.on hba)
          replace HX := Lib.hid (HX.out.on hba)
          clear hba
          refine norm_ (a' := ?_) ?_ ?_
          rotate_left
          · show Act.put _ (some 17) _ = _; simp only [Act.put, List.setIfInBounds_toArray, List.set_cons_zero, List.set_cons_succ, i64_w, i32_w]; rfl
          generalize (w2.alloc (.cells #[.string nm] 9)) = wa1 at *
          generalize w2.heap.size = qa at *
          refine two_ (i := 5) (j := 10) (Ni := some 18) (Nj := some 23) #[true, true, true, true, true, true, true, true, true, true, false, false, false, false, false, false] #[true, true, true, true, true, false, true, true, true, true, true, false, false, false, false, false] rfl rfl rfl rfl (by kernel_rfl) (by decide) (by decide) (fun K hK => ?_) (fun K hK => ?_)
          · skip
            refine step_append_lies _ rfl (.tmp 14) (.tmp 17) 23 rfl (w.heap.size + 2) 9 j0 _ 1 16 Tryz.underlying23 HJ0.out HJZ0.out HJZ1.out HJZ2.out rfl (by omega) nv p ns (by rfl) HM.out.nown ⟨qa, 0, none⟩ 1 1 [.string nm] (by rfl) (by rfl) (World.news_of_block Hqa.out.bk) (by intro u hu; simp only [List.mem_singleton] at hu; subst hu; rfl) (by omega)
              (by unfold maxLen; omega) (by omega) HM.out.size _ rfl ?_
            intro gn cn wp2 hown hgrow hat hlt
            refine hK.out _ _ (hHeld.same (hgrow.block _ (by have := HM.out.size; omega) (own_ne HM.out.nown (by omega))) (hgrow.block _ HX.out.bk.lt (fun e => HX.out.n e.symm))) (fun hHeld2 => ?_)
            clear hK K hHeld
            have hHeld := hHeld2
            clear hHeld2
            replace HM := Lib.hid (HM.out.grow_n hown hgrow hat)
            replace HX := Lib.hid (HX.out.grow_n (n := p + 1) (cap := cn) hgrow hat)
            replace Hqa := Lib.hid (Hqa.out.grow_n (n := p + 1) (cap := cn) hgrow hat)
            clear hown hgrow hat hlt
            refine norm_ (a' := ?_) ?_ ?_
            rotate_left
            · show Act.put _ (some 18) _ = _; simp only [Act.put, List.setIfInBounds_toArray, List.set_cons_zero, List.set_cons_succ, i64_w, i32_w]; rfl
            refine pure_ (i := 12) (N := some 25) (v := ?_) (a' := ?_) #[true, true, true, true, true, true, true, true, true, true, false, false, true, false, false, false] rfl rfl (by kernel_rfl) (fun _ _ _ h => h) (Or.inl ⟨by rfl, ?_⟩) ?_ ?_
            rotate_left
            · intro w'; go_simp; with_reducible rfl
            rotate_left
            · simp only [Act.put, List.setIfInBounds_toArray, List.set_cons_zero, List.set_cons_succ, i64_w, i32_w]; rfl
            refine one_ (i := 10) (N := some 23) #[true, true, true, true, true, true, true, true, true, true, true, false, true, false, false, false] rfl rfl (by kernel_rfl) (by decide) (fun K hK => ?_)
            refine value_ (w1 := (wp2.alloc (.cells #[v0, v1, v2, v3, v4] 25))) (v := .slice (some ⟨wp2.heap.size, 0, none⟩) 1 1) rfl rfl ?_ ?_
            · go_simp
              all_goals first | rfl | (constructor <;> rfl)
            have hba := (Below.refl wp2.heap.size wp2).alloc (Nat.le_refl _) (.cells #[v0, v1, v2, v3, v4] 25)
            refine hK.out _ _ (hHeld.on hba) (fun hHeld2 => ?_)
            clear hK K hHeld
            have hHeld := hHeld2
            clear hHeld2
            have Hqb := Lib.hid (TB.new HM.out 25 #[v0, v1, v2, v3, v4])
            replace HM := Lib.hid (HM.out.on hba)
            replace HX := Lib.hid (HX.out.on hba)
            replace Hqa := Lib.hid (Hqa.out.on hba)
            clear hba
            refine norm_ (a' := ?_) ?_ ?_
            rotate_left
            · show Act.put _ (some 23) _ = _; simp only [Act.put, List.setIfInBounds_toArray, List.set_cons_zero, List.set_cons_succ, i64_w, i32_w]; rfl
            generalize (wp2.alloc (.cells #[v0, v1, v2, v3, v4] 25)) = wa3 at *
            generalize wp2.heap.size = qb at *
            refine one_ (i := 11) (N := some 24) #[true, true, true, true, true, true, true, true, true, true, true, true, true, false, false, false] rfl rfl (by kernel_rfl) (by decide) (fun K hK => ?_)
            refine step_append_lies _ rfl (.tmp 20) (.tmp 23) 22 rfl (w.heap.size + 2) 25 i0 _ 5 80 Tryz.underlying22 HI0.out HZ0.out HZ1.out HZ2.out rfl (by omega) ov p xs (by rfl) HM.out.oown ⟨qb, 0, none⟩ 1 1 [v0, v1, v2, v3, v4] (by rfl) (by rfl) (World.news_of_block Hqb.out.bk) HONE.out (by omega)
              (by unfold maxLen; omega) (by omega) HM.out.size _ rfl ?_
            intro go co wp4 hown hgrow hat hlt
            refine hK.out _ _ (hHeld.same (hgrow.block _ (by have := HM.out.size; omega) (own_ne HM.out.oown (by omega))) (hgrow.block _ HX.out.bk.lt (fun e => HX.out.o e.symm))) (fun hHeld2 => ?_)
            clear hK K hHeld
            have hHeld := hHeld2
            clear hHeld2
            replace HM := Lib.hid (HM.out.grow_o hown hgrow hat)
            replace HX := Lib.hid (HX.out.grow_o (n := p + 1) (cap := co) hgrow hat)
            replace Hqa := Lib.hid (Hqa.out.grow_o (n := p + 1) (cap := co) hgrow hat)
            replace Hqb := Lib.hid (Hqb.out.grow_o (n := p + 1) (cap := co) hgrow hat)
            clear hown hgrow hat hlt
            refine norm_ (a' := ?_) ?_ ?_
            rotate_left
            · show Act.put _ (some 24) _ = _; simp only [Act.put, List.setIfInBounds_toArray, List.set_cons_zero, List.set_cons_succ, i64_w, i32_w]; rfl
            exact HJ.out (.slice (some ⟨qa, 0, none⟩) 1 1, .slice (some ⟨gn, 0, none⟩) (p + 1) cn, .slice (some ⟨qb, 0, none⟩) 1 1, .slice (some ⟨go, 0, none⟩) (p + 1) co) wp4 ⟨HM.out, hHeld⟩
          · skip
            refine value_ (w1 := (wa1.alloc (.cells #[v0, v1, v2, v3, v4] 25))) (v := .slice (some ⟨wa1.heap.size, 0, none⟩) 1 1) rfl rfl ?_ ?_
            · go_simp
              all_goals first | rfl | (constructor <;> rfl)
            have hba := (Below.refl wa1.heap.size wa1).alloc (Nat.le_refl _) (.cells #[v0, v1, v2, v3, v4] 25)
            refine hK.out _ _ (hHeld.on hba) (fun hHeld2 => ?_)
            clear hK K hHeld
            have hHeld := hHeld2
            clear hHeld2
            have Hqb := Lib.hid (TB.new HM.out 25 #[v0, v1, v2, v3, v4])
            replace HM := Lib.hid (HM.out.on hba)
            replace HX := Lib.hid (HX.out.on hba)
            replace Hqa := Lib.hid (Hqa.out.on hba)
            clear hba
            refine norm_ (a' := ?_) ?_ ?_
            rotate_left
            · show Act.put _ (some 23) _ = _; simp only [Act.put, List.setIfInBounds_toArray, List.set_cons_zero, List.set_cons_succ, i64_w, i32_w]; rfl
            generalize (wa1.alloc (.cells #[v0, v1, v2, v3, v4] 25)) = wa5 at *
            generalize wa1.heap.size = qb at *
            refine one_ (i := 5) (N := some 18) #[true, true, true, true, true, true, true, true, true, true, true, false, false, false, false, false] rfl rfl (by kernel_rfl) (by decide) (fun K hK => ?_)
            refine step_append_lies _ rfl (.tmp 14) (.tmp 17) 23 rfl (w.heap.size + 2) 9 j0 _ 1 16 Tryz.underlying23 HJ0.out HJZ0.out HJZ1.out HJZ2.out rfl (by omega) nv p ns (by rfl) HM.out.nown ⟨qa, 0, none⟩ 1 1 [.string nm] (by rfl) (by rfl) (World.news_of_block Hqa.out.bk) (by intro u hu; simp only [List.mem_singleton] at hu; subst hu; rfl) (by omega)
              (by unfold maxLen; omega) (by omega) HM.out.size _ rfl ?_
            intro gn cn wp6 hown hgrow hat hlt
            refine hK.out _ _ (hHeld.same (hgrow.block _ (by have := HM.out.size; omega) (own_ne HM.out.nown (by omega))) (hgrow.block _ HX.out.bk.lt (fun e => HX.out.n e.symm))) (fun hHeld2 => ?_)
            clear hK K hHeld
            have hHeld := hHeld2
            clear hHeld2
            replace HM := Lib.hid (HM.out.grow_n hown hgrow hat)
            replace HX := Lib.hid (HX.out.grow_n (n := p + 1) (cap := cn) hgrow hat)
            replace Hqa := Lib.hid (Hqa.out.grow_n (n := p + 1) (cap := cn) hgrow hat)
            replace Hqb := Lib.hid (Hqb.out.grow_n (n := p + 1) (cap := cn) hgrow hat)
            clear hown hgrow hat hlt
            refine norm_ (a' := ?_) ?_ ?_
            rotate_left
            · show Act.put _ (some 18) _ = _; simp only [Act.put, List.setIfInBounds_toArray, List.set_cons_zero, List.set_cons_succ, i64_w, i32_w]; rfl
            refine pure_ (i := 12) (N := some 25) (v := ?_) (a' := ?_) #[true, true, true, true, true, true, true, true, true, true, true, false, true, false, false, false] rfl rfl (by kernel_rfl) (fun _ _ _ h => h) (Or.inl ⟨by rfl, ?_⟩) ?_ ?_
            rotate_left
            · intro w'; go_simp; with_reducible rfl
            rotate_left
            · simp only [Act.put, List.setIfInBounds_toArray, List.set_cons_zero, List.set_cons_succ, i64_w, i32_w]; rfl
            refine one_ (i := 11) (N := some 24) #[true, true, true, true, true, true, true, true, true, true, true, true, true, false, false, false] rfl rfl (by kernel_rfl) (by decide) (fun K hK => ?_)
            refine step_append_lies _ rfl (.tmp 20) (.tmp 23) 22 rfl (w.heap.size + 2) 25 i0 _ 5 80 Tryz.underlying22 HI0.out HZ0.out HZ1.out HZ2.out rfl (by omega) ov p xs (by rfl) HM.out.oown ⟨qb, 0, none⟩ 1 1 [v0, v1, v2, v3, v4] (by rfl) (by rfl) (World.news_of_block Hqb.out.bk) HONE.out (by omega)
              (by unfold maxLen; omega) (by omega) HM.out.size _ rfl ?_
            intro go co wp7 hown hgrow hat hlt
            refine hK.out _ _ (hHeld.same (hgrow.block _ (by have := HM.out.size; omega) (own_ne HM.out.oown (by omega))) (hgrow.block _ HX.out.bk.lt (fun e => HX.out.o e.symm))) (fun hHeld2 => ?_)
            clear hK K hHeld
            have hHeld := hHeld2
            clear hHeld2
            replace HM := Lib.hid (HM.out.grow_o hown hgrow hat)
            replace HX := Lib.hid (HX.out.grow_o (n := p + 1) (cap := co) hgrow hat)
            replace Hqa := Lib.hid (Hqa.out.grow_o (n := p + 1) (cap := co) hgrow hat)
            replace Hqb := Lib.hid (Hqb.out.grow_o (n := p + 1) (cap := co) hgrow hat)
            clear hown hgrow hat hlt
            refine norm_ (a' := ?_) ?_ ?_
            rotate_left
            · show Act.put _ (some 24) _ = _; simp only [Act.put, List.setIfInBounds_toArray, List.set_cons_zero, List.set_cons_succ, i64_w, i32_w]; rfl
            exact HJ.out (.slice (some ⟨qa, 0, none⟩) 1 1, .slice (some ⟨gn, 0, none⟩) (p + 1) cn, .slice (some ⟨qb, 0, none⟩) 1 1, .slice (some ⟨go, 0, none⟩) (p + 1) co) wp7 ⟨HM.out, hHeld⟩
        · skip
          refine value_ (w1 := (w2.alloc (.cells #[v0, v1, v2, v3, v4] 25))) (v := .slice (some ⟨w2.heap.size, 0, none⟩) 1 1) rfl rfl ?_ ?_
          · go_simp
            all_goals first | rfl | (constructor <;> rfl)
          have hba := (Below.refl w2.heap.size w2).alloc (Nat.le_refl _) (.cells #[v0, v1, v2, v3, v4] 25)
          refine hK.out _ _ (hHeld.on hba) (fun hHeld2 => ?_)
          clear hK K hHeld
          have hHeld := hHeld2
          clear hHeld2
          have Hqb := Lib.hid (TB.new HM.out 25 #[v0, v1, v2, v3, v4])
          replace HM := Lib.hid (HM.out.on hba)
          replace HX := Lib.hid (HX.out.on hba)
          clear hba
          refine norm_ (a' := ?_) ?_ ?_
          rotate_left
          · show Act.put _ (some 23) _ = _; simp only [Act.put, List.setIfInBounds_toArray, List.set_cons_zero, List.set_cons_succ, i64_w, i32_w]; rfl
          generalize (w2.alloc (.cells #[v0, v1, v2, v3, v4] 25)) = wa8 at *
          generalize w2.heap.size = qb at *
          refine one_ (i := 4) (N := some 17) #[true, true, true, true, true, false, true, true, true, true, true, false, false, false, false, false] rfl rfl (by kernel_rfl) (by decide) (fun K hK => ?_)
          refine value_ (w1 := (wa8.alloc (.cells #[.string nm] 9))) (v := .slice (some ⟨wa8.heap.size, 0, none⟩) 1 1) rfl rfl ?_ ?_
          · go_simp
            all_goals first | rfl | (constructor <;> rfl)
          have hba := (Below.refl wa8.heap.size wa8).alloc (Nat.le_refl _) (.cells #[.string nm] 9)
          refine hK.out _ _ (hHeld.on hba) (fun hHeld2 => ?_)
          clear hK K hHeld
          have hHeld := hHeld2
          clear hHeld2
          have Hqa := Lib.hid (TB.new HM.out 9 #[.string nm])
          replace HM := Lib.hid (HM.out.on hba)
          replace HX := Lib.hid (HX.out.on hba)
          replace Hqb := Lib.hid (Hqb.out.on hba)
          clear hba
          refine norm_ (a' := ?_) ?_ ?_
          rotate_left
          · show Act.put _ (some 17) _ = _; simp only [Act.put, List.setIfInBounds_toArray, List.set_cons_zero, List.set_cons_succ, i64_w, i32_w]; rfl
          generalize (wa8.alloc (.cells #[.string nm] 9)) = wa9 at *
          generalize wa8.heap.size = qa at *
          refine one_ (i := 5) (N := some 18) #[true, true, true, true, true, true, true, true, true, true, true, false, false, false, false, false] rfl rfl (by kernel_rfl) (by decide) (fun K hK => ?_)
          refine step_append_lies _ rfl (.tmp 14) (.tmp 17) 23 rfl (w.heap.size + 2) 9 j0 _ 1 16 Tryz.underlying23 HJ0.out HJZ0.out HJZ1.out HJZ2.out rfl (by omega) nv p ns (by rfl) HM.out.nown ⟨qa, 0, none⟩ 1 1 [.string nm] (by rfl) (by rfl) (World.news_of_block Hqa.out.bk) (by intro u hu; simp only [List.mem_singleton] at hu; subst hu; rfl) (by omega)
            (by unfold maxLen; omega) (by omega) HM.out.size _ rfl ?_
          intro gn cn wp10 hown hgrow hat hlt
          refine hK.out _ _ (hHeld.same (hgrow.block _ (by have := HM.out.size; omega) (own_ne HM.out.nown (by omega))) (hgrow.block _ HX.out.bk.lt (fun e => HX.out.n e.symm))) (fun hHeld2 => ?_)
          clear hK K hHeld
          have hHeld := hHeld2
          clear hHeld2
          replace HM := Lib.hid (HM.out.grow_n hown hgrow hat)
          replace HX := Lib.hid (HX.out.grow_n (n := p + 1) (cap := cn) hgrow hat)
          replace Hqb := Lib.hid (Hqb.out.grow_n (n := p + 1) (cap := cn) hgrow hat)
          replace Hqa := Lib.hid (Hqa.out.grow_n (n := p + 1) (cap := cn) hgrow hat)
          clear hown hgrow hat hlt
          refine norm_ (a' := ?_) ?_ ?_
          rotate_left
          · show Act.put _ (some 18) _ = _; simp only [Act.put, List.setIfInBounds_toArray, List.set_cons_zero, List.set_cons_succ, i64_w, i32_w]; rfl
          refine pure_ (i := 12) (N := some 25) (v := ?_) (a' := ?_) #[true, true, true, true, true, true, true, true, true, true, true, false, true, false, false, false] rfl rfl (by kernel_rfl) (fun _ _ _ h => h) (Or.inl ⟨by rfl, ?_⟩) ?_ ?_
          rotate_left
          · intro w'; go_simp; with_reducible rfl
          rotate_left
          · simp only [Act.put, List.setIfInBounds_toArray, List.set_cons_zero, List.set_cons_succ, i64_w, i32_w]; rfl
          refine one_ (i := 11) (N := some 24) #[true, true, true, true, true, true, true, true, true, true, true, true, true, false, false, false] rfl rfl (by kernel_rfl) (by decide) (fun K hK => ?_)
          refine step_append_lies _ rfl (.tmp 20) (.tmp 23) 22 rfl (w.heap.size + 2) 25 i0 _ 5 80 Tryz.underlying22 HI0.out HZ0.out HZ1.out HZ2.out rfl (by omega) ov p xs (by rfl) HM.out.oown ⟨qb, 0, none⟩ 1 1 [v0, v1, v2, v3, v4] (by rfl) (by rfl) (World.news_of_block Hqb.out.bk) HONE.out (by omega)
            (by unfold maxLen; omega) (by omega) HM.out.size _ rfl ?_
          intro go co wp11 hown hgrow hat hlt
          refine hK.out _ _ (hHeld.same (hgrow.block _ (by have := HM.out.size; omega) (own_ne HM.out.oown (by omega))) (hgrow.block _ HX.out.bk.lt (fun e => HX.out.o e.symm))) (fun hHeld2 => ?_)
          clear hK K hHeld
          have hHeld := hHeld2
          clear hHeld2
          replace HM := Lib.hid (HM.out.grow_o hown hgrow hat)
          replace HX := Lib.hid (HX.out.grow_o (n := p + 1) (cap := co) hgrow hat)
          replace Hqb := Lib.hid (Hqb.out.grow_o (n := p + 1) (cap := co) hgrow hat)
          replace Hqa := Lib.hid (Hqa.out.grow_o (n := p + 1) (cap := co) hgrow hat)
          clear hown hgrow hat hlt
          refine norm_ (a' := ?_) ?_ ?_
          rotate_left
          · show Act.put _ (some 24) _ = _; simp only [Act.put, List.setIfInBounds_toArray, List.set_cons_zero, List.set_cons_succ, i64_w, i32_w]; rfl
          exact HJ.out (.slice (some ⟨qa, 0, none⟩) 1 1, .slice (some ⟨gn, 0, none⟩) (p + 1) cn, .slice (some ⟨qb, 0, none⟩) 1 1, .slice (some ⟨go, 0, none⟩) (p + 1) co) wp11 ⟨HM.out, hHeld⟩
      rintro ⟨s17, s18, s23, s24⟩ w3 ⟨hM3, hHeld3⟩
      clear HM HX hHeld
      have HM3 := Lib.hid hM3
      clear hM3
      dsimp only at HM3
      refine norm_ (a' := ?_) ?_ ?_
      rotate_left
      · simp only [putAll, Act.put, List.setIfInBounds_toArray, List.set_cons_zero, List.set_cons_succ]; rfl
      obtain ⟨A18, c18, rfl⟩ := own_slice HM3.out.nown
      obtain ⟨A24, c24, rfl⟩ := own_slice HM3.out.oown
      refine last_ (i := 13) (N := none) #[true, true, true, true, true, true, true, true, true, true, true, true, true, true, false, false] rfl rfl (by kernel_rfl) (by decide) (fun K hK => ?_)
      have f4 := HM3.out.out.fr 4
      have s4 := HM3.out.out.c4
      refine skip_ (w1 := w3.setCell ⟨w.heap.size + 1, 4, none⟩ (.slice A18 (p + 1) c18)) rfl rfl ?_ (hK.out _ _ ?_)
      · go_simp
        all_goals first | rfl | (constructor <;> rfl)
      clear hK K f4 s4
      refine pure_ (i := 14) (N := some 26) (v := ?_) (a' := ?_) #[true, true, true, true, true, true, true, true, true, true, true, true, true, true, true, false] rfl rfl (by kernel_rfl) (fun _ _ _ h => h) (Or.inl ⟨by rfl, ?_⟩) ?_ ?_
      rotate_left
      · intro w'; go_simp; with_reducible rfl
      rotate_left
      · simp only [Act.put, List.setIfInBounds_toArray, List.set_cons_zero, List.set_cons_succ, i64_w, i32_w]; rfl
      refine last_ (i := 15) (N := none) #[true, true, true, true, true, true, true, true, true, true, true, true, true, true, true, true] rfl rfl (by kernel_rfl) (by decide) (fun K hK => ?_)
      have hx3 := HM3.out.out.set4 (.slice A18 (p + 1) c18)
      have f3 := hx3.fr 3
      have s3 := hx3.c3
      clear hx3
      refine skip_ (w1 := (w3.setCell ⟨w.heap.size + 1, 4, none⟩ (.slice A18 (p + 1) c18)).setCell ⟨w.heap.size + 1, 3, none⟩ (.slice A24 (p + 1) c24)) rfl rfl ?_ (hK.out _ _ ?_)
      · go_simp
        all_goals first | rfl | (constructor <;> rfl)
      clear hK K f3 s3 hHeld3
      replace HM3 := Lib.hid HM3.out.put
      generalize ((w3.setCell ⟨w.heap.size + 1, 4, none⟩ (.slice A18 (p + 1) c18)).setCell ⟨w.heap.size + 1, 3, none⟩ (.slice A24 (p + 1) c24)) = w4 at *
      refine done_ (by kernel_rfl) ?_
      go_wp2
      go_roundg (gk - 1)
      case measure => have := HP.out; omega
      case rel => exact ⟨p + 1, _, _, _, _, by have := HP.out; omega, by go_num, HM3.out, HNS2.out, HVR2.out⟩
    · have hd1 : decide (p < n) = false := by simp; omega
      have hd2 : decide ((p : Int) < (n : Int)) = false := by simp; omega
      have hpn : p = n := by have := HP.out; omega
      subst hpn
      have htk : ns = (l.map (·.1)).map Value.string := by rw [HNS.out, List.take_of_length_le (by rw [HN.out]; exact Nat.le_refl _), List.map_map]; rfl
      have hn2 := HM.out.nown
      rw [htk] at hn2
      obtain ⟨NA, ncap, hnv, hTS⟩ := TS_of_own (S' := fun b => w.heap.size + 2 ≤ b ∧ b < wr.heap.size) (l := l.map (·.1)) (by rw [List.length_map, HN.out]; exact hn2) (fun b hb => hn2.lt b hb)
      have hvr2 : VR wr ((zNew B).S w) xs p (fun j => (l.map (·.2)).getD j .leaf) := HVR.out.same (below_same HM.out.below (fun b hb => hb.2)) (fun b h => h)
      obtain ⟨OA, ocap, hov, hVS⟩ := VS_of_own (S' := fun b => B ≤ b ∧ b < wr.heap.size ∧ b ≠ w.heap.size) HM.out.oown hvr2 (fun b hb => ⟨hb.1, Nat.lt_of_lt_of_le hb.2 HM.out.below.size, Nat.ne_of_lt hb.2⟩) (fun b hb => by have := HM.out.oown.lt b hb; have := HBB.out; exact ⟨by omega, by omega, by omega⟩)
      rw [List.length_map, HN.out] at hnv
      subst hnv
      subst hov
      have HTS := Lib.hid hTS
      have HVS := Lib.hid hVS
      have hg := HM.out.out
      have y0 := hg.c0
      have y1 := hg.c1
      have y2 := hg.c2
      have y3 := hg.c3
      have y4 := hg.c4
      have hz := HM.out.res
      have z0 := hz.c0
      have z1 := hz.c1
      have z2 := hz.c2
      have z3 := hz.c3
      have z4 := hz.c4
      have f0 := hz.fr 0
      have f1 := hz.fr 1
      have f2 := hz.fr 2
      have f3 := hz.fr 3
      have f4 := hz.fr 4
      have hres := hz.put (.int .i64 5) (.bool false) (.string ⟨#[]⟩) (.slice OA p ocap) (.slice NA p ncap)
      have r0 := hres.c0
      have r1 := hres.c1
      have r2 := hres.c2
      have r3 := hres.c3
      have r4 := hres.c4
      clear hres hg hz hTS hVS hvr2 hn2 htk hlt
      go_wp2
      refine bodyPost_ret (v := .agg #[.int .i64 5, .bool false, .string ⟨#[]⟩, .slice OA p ocap, .slice NA p ncap]) (by simp [results, Tryz.results69, go_sem, r0, r1, r2, r3, r4]) rfl ?_
      have hbel := five_below HM.out.below w.heap.size (.int .i64 5) (.bool false) (.string ⟨#[]⟩) (.slice OA p ocap) (.slice NA p ncap) (Nat.le_refl _)
      refine ⟨_, rfl, ?_, hbel⟩
      have hT := (HTS.out.same (five_same wr w.heap.size (.int .i64 5) (.bool false) (.string ⟨#[]⟩) (.slice OA p ocap) (.slice NA p ncap) (fun b hb => by have := hb.1; omega))).mono (S' := (zNew B).S (five wr w.heap.size (.int .i64 5) (.bool false) (.string ⟨#[]⟩) (.slice OA p ocap) (.slice NA p ncap))) (fun b hb => ⟨by have := HBB.out; have := hb.1; omega, by rw [five_size]; exact hb.2⟩)
      have hV := (HVS.out.same (five_same wr w.heap.size (.int .i64 5) (.bool false) (.string ⟨#[]⟩) (.slice OA p ocap) (.slice NA p ncap) (fun b hb => hb.2.2))).mono (S' := (zNew B).S (five wr w.heap.size (.int .i64 5) (.bool false) (.string ⟨#[]⟩) (.slice OA p ocap) (.slice NA p ncap))) (fun b hb => ⟨hb.1, by rw [five_size]; exact hb.2.1⟩)
      have e1 : p = (l.map (·.1)).length := by rw [List.length_map]; exact HN.out.symm
      have e2 : p = (l.map (·.2)).length := by rw [List.length_map]; exact HN.out.symm
      show VAL _ _ (.mk 5 false .empty (l.map (·.2)).length _ (l.map (·.1))) (.agg #[.int .i64 5, .bool false, .string ⟨#[]⟩, .slice OA p ocap, .slice NA p ncap])
      have := VAL.shut (k := 5) (i := false) (t := ⟨#[]⟩) (cap := ocap) (cap' := ncap) (by decide) hT hV
      rw [← e1] at this
      rw [← e2]
      exact this
    end Go.Proofs.YtfploakafbnigaaGreatDoor
