/-
  Layer 12, the walks: RpcMembers, of messages that may be.
-/
import Derived.Test.YtfploakafbnigaaGreatDoorCRpcMemA
namespace Go.Proofs.YtfploakafbnigaaGreatDoor
open Go.RowKit Val Num YtfploakafbnigaaGreatDoorW.PrintLast
set_option linter.unusedVariables false
set_option linter.unusedSimpArgs false
set_option maxRecDepth 100000 in
set_option maxHeartbeats 32000000 in
theorem RpcMembers_yes (m : MT) (fr : Int) (t : VT) (v vt : Value) (w : World) (h : MSV (zLt w.heap.size) m w v) (ht : VAL w (fun x => x < w.heap.size) t vt) (hk : m.bulk ≤ 4000000) (hkt : t.bulk ≤ 1048576) (hfr : I64 fr) (hci : I64 m.code) (hM : ML w) (hP : PTab w) (ho : MTok m = true) :
    Calls Tryz.prog 13 #[v, .int .i64 fr, vt] w (Made (.bool true) w) := by
  have htb := MTtree_bulk' m hci
  have hfb := fault_bulk m.code m.text hci
  have htx : m.text.size ≤ m.bulk := by unfold MT.bulk; omega
  have hkk : m.id.bulk ≤ 4000000 ∧ m.params.bulk ≤ 4000000 ∧ m.result.bulk ≤ 4000000 := by unfold MT.bulk at hk; omega
  have hlen := mem_len (MTok_may' ho)
  have HPR := Lib.hid (fun W z v (hv : MSV z m W v) (hM : ML W) (hP : PTab W) => Print_ok m z v W hv hM hP ho (by omega) (by omega) (by omega))
  have HSAY := Lib.hid (fun r R hR => members_say ho r R hR)
  have HSM := Lib.hid (fun W z z' v v' b (hv : MSV z m W v) (hv' : MSV z' b W v') (hb : b.bulk ≤ 1073741824) => SameM_any m b z z' v v' W hv hv' (by omega) hb)
  have htr : MTtree m = pairT (MTmem m) := rfl
  rw [htr] at HPR htb
  obtain ⟨P, hP_⟩ : ∃ l, MTmem m = l := ⟨_, rfl⟩
  rw [hP_] at HPR htb hlen HSAY
  have HTB : Hid ((pairT P).bulk ≤ 4000300) := Lib.hid (by omega)
  obtain ⟨n, hn⟩ : ∃ n, P.length = n := ⟨_, rfl⟩
  have HN := Lib.hid hn
  rw [hn] at hlen
  have HPL : Hid (n ≤ 4) := Lib.hid hlen.2
  have HP0 : Hid (0 < n) := Lib.hid hlen.1
  obtain ⟨r, hr1, hr2⟩ : ∃ r : Nat, fr % (n : Int) = (r : Int) ∧ r < n := ⟨(fr % (n : Int)).toNat, by have := Int.emod_nonneg fr (show (n : Int) ≠ 0 by omega); omega, by have := Int.emod_lt_of_pos fr (show (0 : Int) < n by omega); have := Int.emod_nonneg fr (show (n : Int) ≠ 0 by omega); omega⟩
  have HBR := Lib.hid (fun W => Bring_any fr n W hfr (by omega))
  rw [hr1] at HBR
  have HR := Lib.hid hr2
  clear ho hlen htr hP_ hn hr1 hr2
  have HMS := Lib.hid h
  clear htb hfb htx
  obtain ⟨mk, mid, mme, mha, mpa, mre, mco, mte⟩ := m
  obtain ⟨im0, im1, im2, im3, im4, pm0, pm1, pm2, pm3, pm4, rm0, rm1, rm2, rm3, rm4, rfl, q1, q2, q3⟩ := h
  dsimp only at q1 q2 q3 hkk ⊢
  obtain ⟨kmi, bmi, xmi, Ami, nmi, cmi, Bmi, mmi, dmi, rfl, rfl, rfl, rfl, rfl⟩ := VAL.shape5 q1
  obtain ⟨kmp, bmp, xmp, Amp, nmp, cmp, Bmp, mmp, dmp, rfl, rfl, rfl, rfl, rfl⟩ := VAL.shape5 q2
  obtain ⟨kmr, bmr, xmr, Amr, nmr, cmr, Bmr, mmr, dmr, rfl, rfl, rfl, rfl, rfl⟩ := VAL.shape5 q3
  have HVi := Lib.hid q1.old
  have HVp := Lib.hid q2.old
  have HVr := Lib.hid q3.old
  have HKi := Lib.hid hkk.1
  have HKp := Lib.hid hkk.2.1
  have HKr := Lib.hid hkk.2.2
  have HKt := Lib.hid hkt
  obtain ⟨kt, bt, xt, At, nt, ct, Bt, mt, dt, rfl⟩ := VAL.shape ht
  have HVt : Hid (VLV (zLt w.heap.size) t w _) := Lib.hid (VAL.mono (fun _ hx => ⟨hx, hx⟩) ht)
  clear q1 q2 q3 hkk hkt ht hk hci
  have HM := Lib.hid hM
  have HPT := Lib.hid hP
  have HB := Lib.hid (Below.refl w.heap.size w)
  clear hM hP
  go_enter Tryz.func13, Tryz.ntmps13
  go_upto_region 1 with (fail)
  have hb : Below w.heap.size w (((w.alloc (.cells #[.int .i64 mk, .int .i64 kmi, .bool bmi, .string xmi, .slice Ami nmi cmi, .slice Bmi mmi dmi, .string mme, .bool mha, .int .i64 kmp, .bool bmp, .string xmp, .slice Amp nmp cmp, .slice Bmp mmp dmp, .int .i64 kmr, .bool bmr, .string xmr, .slice Amr nmr cmr, .slice Bmr mmr dmr, .int .i64 mco, .string mte] 46))).alloc (.cells #[.int .i64 kt, .bool bt, .string xt, .slice At nt ct, .slice Bt mt dt] 25)) := al2_below w _ _
  replace HVi := Lib.hid (HVi.out.up hb)
  replace HVp := Lib.hid (HVp.out.up hb)
  replace HVr := Lib.hid (HVr.out.up hb)
  replace HVt := Lib.hid (HVt.out.up hb)
  replace HM := Lib.hid (HM.out.on hb)
  replace HPT := Lib.hid (HPT.out.on hb)
  replace HMS := Lib.hid (HMS.out.up hb)
  replace HB := Lib.hid (HB.out.trans (hb.mono HB.out.size))
  have hX0 : BK (((w.alloc (.cells #[.int .i64 mk, .int .i64 kmi, .bool bmi, .string xmi, .slice Ami nmi cmi, .slice Bmi mmi dmi, .string mme, .bool mha, .int .i64 kmp, .bool bmp, .string xmp, .slice Amp nmp cmp, .slice Bmp mmp dmp, .int .i64 kmr, .bool bmr, .string xmr, .slice Amr nmr cmr, .slice Bmr mmr dmr, .int .i64 mco, .string mte] 46))).alloc (.cells #[.int .i64 kt, .bool bt, .string xt, .slice At nt ct, .slice Bt mt dt] 25)) (w.heap.size) 46 #[.int .i64 mk, .int .i64 kmi, .bool bmi, .string xmi, .slice Ami nmi cmi, .slice Bmi mmi dmi, .string mme, .bool mha, .int .i64 kmp, .bool bmp, .string xmp, .slice Amp nmp cmp, .slice Bmp mmp dmp, .int .i64 kmr, .bool bmr, .string xmr, .slice Amr nmr cmr, .slice Bmr mmr dmr, .int .i64 mco, .string mte] := al2_0 w _ _
  have HK := Lib.hid (Blks.one hX0)
  have hX1 : BK (((w.alloc (.cells #[.int .i64 mk, .int .i64 kmi, .bool bmi, .string xmi, .slice Ami nmi cmi, .slice Bmi mmi dmi, .string mme, .bool mha, .int .i64 kmp, .bool bmp, .string xmp, .slice Amp nmp cmp, .slice Bmp mmp dmp, .int .i64 kmr, .bool bmr, .string xmr, .slice Amr nmr cmr, .slice Bmr mmr dmr, .int .i64 mco, .string mte] 46))).alloc (.cells #[.int .i64 kt, .bool bt, .string xt, .slice At nt ct, .slice Bt mt dt] 25)) (w.heap.size + 1) 25 #[.int .i64 kt, .bool bt, .string xt, .slice At nt ct, .slice Bt mt dt] := al2_1 w _ _
  replace HK := Lib.hid (Blks.cons hX1 HK.out)
  clear hb hX0 hX1
  generalize (((w.alloc (.cells #[.int .i64 mk, .int .i64 kmi, .bool bmi, .string xmi, .slice Ami nmi cmi, .slice Bmi mmi dmi, .string mme, .bool mha, .int .i64 kmp, .bool bmp, .string xmp, .slice Amp nmp cmp, .slice Bmp mmp dmp, .int .i64 kmr, .bool bmr, .string xmr, .slice Amr nmr cmr, .slice Bmr mmr dmr, .int .i64 mco, .string mte] 46))).alloc (.cells #[.int .i64 kt, .bool bt, .string xt, .slice At nt ct, .slice Bt mt dt] 25)) = w1 at *
  have hg := Blks.hd (Blks.tl HK.out)
  have y1 := hg.c 1 rfl
  have y2 := hg.c 2 rfl
  have y3 := hg.c 3 rfl
  have y4 := hg.c 4 rfl
  have y5 := hg.c 5 rfl
  have y8 := hg.c 8 rfl
  have y9 := hg.c 9 rfl
  have y10 := hg.c 10 rfl
  have y11 := hg.c 11 rfl
  have y12 := hg.c 12 rfl
  have y13 := hg.c 13 rfl
  have y14 := hg.c 14 rfl
  have y15 := hg.c 15 rfl
  have y16 := hg.c 16 rfl
  have y17 := hg.c 17 rfl
  clear hg
  have hg := Blks.hd HK.out
  have u0 := hg.c 0 rfl
  have u1 := hg.c 1 rfl
  have u2 := hg.c 2 rfl
  have u3 := hg.c 3 rfl
  have u4 := hg.c 4 rfl
  clear hg
  go_wp2_with fail
  clear y1 y2 y3 y4 y5 y8 y9 y10 y11 y12 y13 y14 y15 y16 y17 u0 u1 u2 u3 u4
  refine at1 (fun w2 hX0 hb hz => ?_)
  replace HVi := Lib.hid (HVi.out.up hb)
  replace HVp := Lib.hid (HVp.out.up hb)
  replace HVr := Lib.hid (HVr.out.up hb)
  replace HVt := Lib.hid (HVt.out.up hb)
  replace HM := Lib.hid (HM.out.on hb)
  replace HPT := Lib.hid (HPT.out.on hb)
  replace HMS := Lib.hid (HMS.out.up hb)
  replace HK := Lib.hid (HK.out.on hb)
  replace HB := Lib.hid (HB.out.trans (hb.mono HB.out.size))
  replace HK := Lib.hid (Blks.cons hX0 HK.out)
  clear hX0 hb
  clear hz
  have hD := DeepList_any 4 _ w2 _ _ 4 (BL.VS (Blks.hd HK.out) [mid, mpa, mre, t] (VR.cons (VAL.mono (fun b hb => (Zone.lt _ _ b hb)) HVi.out) (VR.cons (VAL.mono (fun b hb => (Zone.lt _ _ b hb)) HVp.out) (VR.cons (VAL.mono (fun b hb => (Zone.lt _ _ b hb)) HVr.out) (VR.cons (VAL.mono (fun b hb => (Zone.lt _ _ b hb)) HVt.out) (VR.none _ _)))))) (fun b hb => hb) (by omega) (fun j hj => by
    match j, hj with
    | 0, _ => exact Nat.le_trans HKi.out (by omega)
    | 1, _ => exact Nat.le_trans HKp.out (by omega)
    | 2, _ => exact Nat.le_trans HKr.out (by omega)
    | 3, _ => exact Nat.le_trans HKt.out (by omega))
  refine hD.mono ?_
  clear hD
  rintro e w3 ⟨⟨bb, rfl⟩, hb⟩
  replace HVi := Lib.hid (HVi.out.up hb)
  replace HVp := Lib.hid (HVp.out.up hb)
  replace HVr := Lib.hid (HVr.out.up hb)
  replace HVt := Lib.hid (HVt.out.up hb)
  replace HM := Lib.hid (HM.out.on hb)
  replace HPT := Lib.hid (HPT.out.on hb)
  replace HMS := Lib.hid (HMS.out.up hb)
  replace HK := Lib.hid (HK.out.on hb)
  replace HB := Lib.hid (HB.out.trans (hb.mono HB.out.size))
  clear hb
  cases bb
  rotate_left
  · skip
    go_wp2_with fail
    refine (awake12_any w3 HM.out).mono ?_
    rintro e w4 ⟨rfl, hb⟩
    replace HVi := Lib.hid (HVi.out.up hb)
    replace HVp := Lib.hid (HVp.out.up hb)
    replace HVr := Lib.hid (HVr.out.up hb)
    replace HVt := Lib.hid (HVt.out.up hb)
    replace HM := Lib.hid (HM.out.on hb)
    replace HPT := Lib.hid (HPT.out.on hb)
    replace HMS := Lib.hid (HMS.out.up hb)
    replace HK := Lib.hid (HK.out.on hb)
    replace HB := Lib.hid (HB.out.trans (hb.mono HB.out.size))
    clear hb
    go_wp2
    go_ret
    exact ⟨rfl, HB.out⟩
  go_wp2_with ((refine wpList_load_row rfl 46 (.tmp 3) rfl (w.heap.size) rfl 46 #[.int .i64 mk, .int .i64 kmi, .bool bmi, .string xmi, .slice Ami nmi cmi, .slice Bmi mmi dmi, .string mme, .bool mha, .int .i64 kmp, .bool bmp, .string xmp, .slice Amp nmp cmp, .slice Bmp mmp dmp, .int .i64 kmr, .bool bmr, .string xmr, .slice Amr nmr cmr, .slice Bmr mmr dmr, .int .i64 mco, .string mte] (0, 0) _ (Blks.hd (Blks.tl (Blks.tl HK.out))) Tryz.underlying46 rfl (by kernel_rfl) ?_))
  refine (HPR.out w3 _ _ HMS.out HM.out HPT.out).mono ?_
  rintro e w4 ⟨v', rfl, hv, hb⟩
  obtain ⟨A7, c7, B7, d7, rfl, -, -, -⟩ := VAL.open (k := 5) (i := false) (t := .empty) (n := (P.map (fun (x : ByteArray × VT) => x.2)).length) (c := fun j => (P.map (fun (x : ByteArray × VT) => x.2)).getD j .leaf) (m := P.map (fun (x : ByteArray × VT) => x.1)) hv.1
  have HVv := Lib.hid hv.1.old
  clear hv
  rw [List.length_map, List.length_map, HN.out] at HVv ⊢
  replace HVi := Lib.hid (HVi.out.up hb)
  replace HVp := Lib.hid (HVp.out.up hb)
  replace HVr := Lib.hid (HVr.out.up hb)
  replace HVt := Lib.hid (HVt.out.up hb)
  replace HM := Lib.hid (HM.out.on hb)
  replace HPT := Lib.hid (HPT.out.on hb)
  replace HMS := Lib.hid (HMS.out.up hb)
  replace HK := Lib.hid (HK.out.on hb)
  replace HB := Lib.hid (HB.out.trans (hb.mono HB.out.size))
  clear hb HPR
  go_upto_region 4 with (fail)
  have HGg7 := Lib.hid ((Blks.hd HK.out).lt)
  have hb : Below w4.heap.size w4 (w4.alloc (.cells #[.int .i64 5, .bool false, .string .empty, .slice A7 n c7, .slice B7 n d7] 25)) := made_end' w4 _
  replace HVi := Lib.hid (HVi.out.up hb)
  replace HVp := Lib.hid (HVp.out.up hb)
  replace HVr := Lib.hid (HVr.out.up hb)
  replace HVt := Lib.hid (HVt.out.up hb)
  replace HM := Lib.hid (HM.out.on hb)
  replace HPT := Lib.hid (HPT.out.on hb)
  replace HMS := Lib.hid (HMS.out.up hb)
  replace HVv := Lib.hid (HVv.out.up hb)
  replace HK := Lib.hid (HK.out.on hb)
  replace HB := Lib.hid (HB.out.trans (hb.mono HB.out.size))
  have hX0 : BK (w4.alloc (.cells #[.int .i64 5, .bool false, .string .empty, .slice A7 n c7, .slice B7 n d7] 25)) (w4.heap.size) 25 #[.int .i64 5, .bool false, .string .empty, .slice A7 n c7, .slice B7 n d7] := BK.new w4 _ _
  replace HK := Lib.hid (Blks.cons hX0 HK.out)
  clear hb hX0
  generalize (w4.alloc (.cells #[.int .i64 5, .bool false, .string .empty, .slice A7 n c7, .slice B7 n d7] 25)) = w5 at *
  generalize w4.heap.size = g7 at *
  have hg := Blks.hd HK.out
  have y0 := hg.c 0 rfl
  have y1 := hg.c 1 rfl
  have y2 := hg.c 2 rfl
  have y3 := hg.c 3 rfl
  have y4 := hg.c 4 rfl
  clear hg
  go_upto_region 8 with (fail)
  clear y0 y1 y2 y3 y4
  obtain ⟨wb, hwb⟩ : ∃ x, x = w5 := ⟨_, rfl⟩
  subst hwb
  have HA := Lib.hid (AdM.new wb)
  generalize (wb.alloc (.cells #[.int .i64 5, .bool false, .string ⟨#[]⟩, .slice none 0 0, .slice none 0 0] 25)) = w0_ at *
  obtain ⟨A9, c9, B9, d9, he9, -, hT9, hV9⟩ := VAL.open (k := 5) (i := false) (t := .empty) (n := (P.map (fun (x : ByteArray × VT) => x.2)).length) (c := fun j => (P.map (fun (x : ByteArray × VT) => x.2)).getD j .leaf) (m := P.map (fun (x : ByteArray × VT) => x.1)) HVv.out
  injection he9 with he9
  injection he9 with he9
  injection he9 with z0 he9; injection he9 with z1 he9; injection he9 with z2 he9; injection he9 with z3 he9; injection he9 with z4 he9
  injection z3 with z31 z32 z33
  injection z4 with z41 z42 z43
  subst z31 z33 z41 z43
  clear z0 z1 z2 z32 z42 he9
  rcases hT9 with h0 | ⟨bN, oN, rfl, hbN, hNA⟩
  · exfalso; have := congrArg List.length h0; rw [List.length_map, HN.out] at this; have := HP0.out; simp at *; omega
  rcases hV9 with h0 | ⟨bV, oV, rfl, hbV, hVA⟩
  · exfalso; rw [List.length_map, HN.out] at h0; have := HP0.out; omega
  have HBN : Hid (bN < wb.heap.size) := Lib.hid hbN.2
  have HBV : Hid (bV < wb.heap.size) := Lib.hid hbV.2
  have HNA := Lib.hid hNA
  have HVA := Lib.hid hVA
  clear hNA hVA hbN hbV
  have HK7 := Lib.hid (Blks.hd HK.out)
  obtain ⟨i0, hi0, hz0, hz1, hz2⟩ := info_parts Tryz.infoV
  have HI0 := Lib.hid hi0
  have HZ0 := Lib.hid hz0
  have HZ1 := Lib.hid hz1
  have HZ2 := Lib.hid hz2
  obtain ⟨j0, hj0, hy0, hy1, hy2⟩ := info_parts Tryz.infoS
  have HJ0 := Lib.hid hj0
  have HJZ0 := Lib.hid hy0
  have HJZ1 := Lib.hid hy1
  have HJZ2 := Lib.hid hy2
  clear hi0 hz0 hz1 hz2 hj0 hy0 hy1 hy2
  have HV0 : Hid (VR wb (fun b => b < wb.heap.size) [] 0 (fun j => ((rotP P r).map (fun (x : ByteArray × VT) => x.2)).getD j .leaf)) := Lib.hid (VR.nil _ _ _)
  go_wp2_with fail
  go_loopg [11] n (fun q v wr => ∃ (p : Nat) (nv ov : Value) (ns xs : List Value), p + q = n ∧ v = .int .i64 p ∧ AdM wb nv ov nv ov p p ns xs (fun _ => False) wb wr ∧ ns = ((rotP P r).take p).map (fun x => Value.string x.1) ∧ VR wb (fun b => b < wb.heap.size) xs p (fun j => ((rotP P r).map (fun (x : ByteArray × VT) => x.2)).getD j .leaf))
  case atStart => exact ⟨0, _, _, [], [], by omega, rfl, HA.out, by simp, HV0.out⟩
  case round =>
    clear HA HV0
    obtain ⟨p, nv, ov, ns, xs, hp, rfl, hM, hns, hvr⟩ := hrel
    have HP := Lib.hid hp
    have HM_ := HM
    clear HM
    have HM := Lib.hid hM
    have HNS := Lib.hid hns
    have HVR := Lib.hid hvr
    clear hp hM hns hvr
    by_cases hlt : p < n
    · have hd0 : decide ((p : Int) < (n : Int)) = true := by simp; omega
      have hd1 : decide (p < n) = true := by simp; omega
      obtain ⟨kk, hkk⟩ : ∃ k, (p + r) % n = k := ⟨_, rfl⟩
      have hkn : kk < n := by rw [← hkk]; exact Nat.mod_lt _ HP0.out
      obtain ⟨nm, tk, hq⟩ : ∃ a b, P[kk]? = some (a, b) := by
        have := List.getElem?_eq_getElem (l := P) (i := kk) (by rw [HN.out]; exact hkn)
        exact ⟨_, _, this⟩
      have hqr : (rotP P r)[p]? = some (nm, tk) := by
        rw [rot_get (by rw [HN.out]; exact HR.out) (by rw [HN.out]; exact hlt), HN.out, hkk]; exact hq
      have HNC : Hid (wb.cell? ⟨bN, oN + kk, none⟩ = some (.string nm)) := Lib.hid (by
        have h1 := HNA.out kk (by rw [List.length_map, HN.out]; exact hkn)
        rw [h1]
        obtain ⟨h2, h3⟩ := List.getElem?_eq_some_iff.1 hq
        rw [List.getElem_map, h3])
      obtain ⟨v0, v1, v2, v3, v4, hc5, hva⟩ := HVA.out kk (by rw [List.length_map, HN.out]; exact hkn)
      have htk : (P.map (fun (x : ByteArray × VT) => x.2)).getD kk .leaf = tk := getD_map2 hq
      have HVC := Lib.hid hc5
      have hva2 : VAL wb (fun b => b < wb.heap.size) tk (.agg #[v0, v1, v2, v3, v4]) := by
        have := VAL.mono (fun b (hb : (zLt _).S wb b) => (hb.2 : b < wb.heap.size)) hva
        rwa [htk] at this
      have HONE := Lib.hid (VAL.one hva2)
      have HNS2 : Hid (ns ++ [.string nm] = ((rotP P r).take (p + 1)).map (fun x => Value.string x.1)) := Lib.hid (by rw [HNS.out, take_map2 hqr])
      have HVR2 := Lib.hid (HVR.out.snoc (c := fun j => ((rotP P r).map (fun (x : ByteArray × VT) => x.2)).getD j .leaf) (p := p) (by show VAL _ _ (((rotP P r).map (fun (x : ByteArray × VT) => x.2)).getD p .leaf) _; rw [getD_map2 hqr]; exact hva2))
      clear hc5 hva hva2 htk hq hqr
      go_wp2_with fail
      refine (HBR.out wr).mono ?_
      rintro e wq ⟨rfl, rfl⟩
      have i1 : (0 : Int) ≤ kk := by omega
      have i2 : (kk : Int) < n := by omega
      have hm1 : ((p : Int) + (r : Int)).tmod (n : Int) = (kk : Int) := by rw [Int.tmod_eq_emod_of_nonneg (by omega), ← hkk]; simp
      have hw1 : wrap64 ((p : Int) + (r : Int)) = (p : Int) + (r : Int) := by have := HPL.out; have := HR.out; unfold wrap64; omega
      go_wp2_with fail
      try rw [hw1]
      try rw [hm1]
      clear hw1 hm1
      refine start_ (n := 11) (S := OB wb nv ov) (ds := [10]) #[false, false, false, false, false, false, false, false, false, false, false] (by kernel_rfl) rfl rfl (AdM.ob (HM.out.on ((Below.refl _ _).drew))) (fun hHeld => ?_)
      have hbd : Below wr.heap.size wr wr.drew := (Below.refl _ _).drew
      replace HM := Lib.hid (HM.out.on hbd)
      clear hbd
      generalize wr.drew = y6 at *
      refine pure_ (i := 0) (N := some 49) (v := ?_) (a' := ?_) #[true, false, false, false, false, false, false, false, false, false, false] rfl rfl (by kernel_rfl) (fun _ _ _ h => h) (Or.inl ⟨by rfl, ?_⟩) ?_ ?_
      rotate_left
      · intro w'; go_simp; with_reducible rfl
      rotate_left
      · simp only [Act.put, List.setIfInBounds_toArray, List.set_cons_zero, List.set_cons_succ, i64_w, i32_w]; rfl
      refine pure_ (i := 2) (N := some 51) (v := ?_) (a' := ?_) #[true, false, true, false, false, false, false, false, false, false, false] rfl rfl (by kernel_rfl) (fun _ _ _ h => h) (Or.inl ⟨by rfl, ?_⟩) ?_ ?_
      rotate_left
      · intro w'; go_simp; with_reducible rfl
      rotate_left
      · simp only [Act.put, List.setIfInBounds_toArray, List.set_cons_zero, List.set_cons_succ, i64_w, i32_w]; rfl
      refine pure_ (i := 4) (N := some 53) (v := ?_) (a' := ?_) #[true, false, true, false, true, false, false, false, false, false, false] rfl rfl (by kernel_rfl) (fun _ _ _ h => h) (Or.inl ⟨by rfl, ?_⟩) ?_ ?_
      rotate_left
      · intro w'; go_simp; with_reducible rfl
      rotate_left
      · simp only [Act.put, List.setIfInBounds_toArray, List.set_cons_zero, List.set_cons_succ, i64_w, i32_w]; rfl
      refine take_ (i := 1) (N := some 50) (v := ?_) (a' := ?_) #[true, true, true, false, true, false, false, false, false, false, false] rfl rfl (by kernel_rfl) (fun _ _ _ h => h) (Or.inl ⟨by rfl, ?_⟩) hHeld ?_ ?_
      rotate_left
      · intro w' hh; have s4 := hh.1.c4; clear hh; go_simp; with_reducible rfl
      rotate_left
      · simp only [Act.put, List.setIfInBounds_toArray, List.set_cons_zero, List.set_cons_succ, i64_w, i32_w]; rfl
      refine take_ (i := 3) (N := some 52) (v := ?_) (a' := ?_) #[true, true, true, true, true, false, false, false, false, false, false] rfl rfl (by kernel_rfl) (fun _ _ _ h => h) (Or.inl ⟨by rfl, ?_⟩) hHeld ?_ ?_
      rotate_left
      · intro w' hh; have hg := HK7.out.on hh.2; have s4 := hg.c 4 rfl; clear hg; clear hh; go_simp; with_reducible rfl
      rotate_left
      · simp only [Act.put, List.setIfInBounds_toArray, List.set_cons_zero, List.set_cons_succ, i64_w, i32_w]; rfl
      refine pure_ (i := 5) (N := some 54) (v := ?_) (a' := ?_) #[true, true, true, true, true, true, false, false, false, false, false] rfl rfl (by kernel_rfl) (fun _ _ _ h => h) (Or.inl ⟨by rfl, ?_⟩) ?_ ?_
      rotate_left
      · intro w'; go_simp; with_reducible rfl
      rotate_left
      · simp only [Act.put, List.setIfInBounds_toArray, List.set_cons_zero, List.set_cons_succ, i64_w, i32_w]; rfl
      refine take_ (i := 6) (N := some 55) (v := ?_) (a' := ?_) #[true, true, true, true, true, true, true, false, false, false, false] rfl rfl (by kernel_rfl) (fun _ _ _ h => h) (Or.inl ⟨by rfl, ?_⟩) hHeld ?_ ?_
      rotate_left
      · intro w' hh; have e0 := (hh.2.cell (p := ⟨bN, oN + kk, none⟩) HBN.out).trans HNC.out; clear hh; go_simp; with_reducible rfl
      rotate_left
      · simp only [Act.put, List.setIfInBounds_toArray, List.set_cons_zero, List.set_cons_succ, i64_w, i32_w]; rfl
      refine one_ (i := 7) (N := some 56) #[true, true, true, true, true, true, true, true, false, false, false] rfl rfl (by kernel_rfl) (by decide) (fun K hK => ?_)
      refine value_ (w1 := (y6.alloc (.cells #[.string nm] 9))) (v := .slice (some ⟨y6.heap.size, 0, none⟩) 1 1) rfl rfl ?_ ?_
      · go_simp
        all_goals first | rfl | (constructor <;> rfl)
      have hba := (Below.refl y6.heap.size y6).alloc (Nat.le_refl _) (.cells #[.string nm] 9)
      have Hq := Lib.hid (AdM.tb HM.out 9 #[.string nm])
      replace HM := Lib.hid (HM.out.on hba)
      refine hK.out _ _ HM.out.ob (fun hHeld2 => ?_)
      clear hK K hHeld
      have hHeld := hHeld2
      clear hHeld2 hba
      refine norm_ (a' := ?_) ?_ ?_
      rotate_left
      · show Act.put _ (some 56) _ = _; simp only [Act.put, List.setIfInBounds_toArray, List.set_cons_zero, List.set_cons_succ, i64_w, i32_w]; rfl
      generalize (y6.alloc (.cells #[.string nm] 9)) = y7 at *
      generalize y6.heap.size = q_ at *
      refine one_ (i := 8) (N := some 57) #[true, true, true, true, true, true, true, true, true, false, false] rfl rfl (by kernel_rfl) (by decide) (fun K hK => ?_)
      refine step_append_lies _ rfl (.tmp 50) (.tmp 56) 23 rfl (wb.heap.size + 1) 9 j0 _ 1 16 Tryz.underlying23 HJ0.out HJZ0.out HJZ1.out HJZ2.out rfl (by omega) nv p ns (by rfl) HM.out.nown ⟨q_, 0, none⟩ 1 1 [.string nm] (by rfl) (by rfl) (World.news_of_block Hq.out.bk) (by intro u hu; simp only [List.mem_singleton] at hu; subst hu; rfl) (by omega)
        (by unfold maxLen; have := HPL.out; omega) (by have := HPL.out; omega) HM.out.size _ rfl ?_
      intro gn cn y8 hown hgrow hat hlt
      replace HM := Lib.hid (HM.out.grow_n hown hgrow hat)
      refine hK.out _ _ HM.out.ob (fun hHeld2 => ?_)
      clear hK K hHeld hHeld2 hown hgrow hat hlt Hq
      refine norm_ (a' := ?_) ?_ ?_
      rotate_left
      · show Act.put _ (some 57) _ = _; simp only [Act.put, List.setIfInBounds_toArray, List.set_cons_zero, List.set_cons_succ, i64_w, i32_w]; rfl
      refine pure_ (i := 9) (N := some 58) (v := ?_) (a' := ?_) #[true, true, true, true, true, true, true, true, true, true, false] rfl rfl (by kernel_rfl) (fun _ _ _ h => h) (Or.inl ⟨by rfl, ?_⟩) ?_ ?_
      rotate_left
      · intro w'; go_simp; with_reducible rfl
      rotate_left
      · simp only [Act.put, List.setIfInBounds_toArray, List.set_cons_zero, List.set_cons_succ, i64_w, i32_w]; rfl
      refine last_ (i := 10) (N := none) #[true, true, true, true, true, true, true, true, true, true, true] rfl rfl (by kernel_rfl) (by decide) (fun K hK => ?_)
      have f4 := HM.out.out.fr 4
      have s4 := HM.out.out.c4
      refine skip_ (w1 := (y8.setCell ⟨wb.heap.size, 4, none⟩ (.slice (some ⟨gn, 0, none⟩) (p + 1) cn))) rfl rfl ?_ (hK.out _ _ ?_)
      · go_simp
        all_goals first | rfl | (constructor <;> rfl)
      clear hK K f4 s4
      replace HM := Lib.hid HM.out.putN
      generalize (y8.setCell ⟨wb.heap.size, 4, none⟩ (.slice (some ⟨gn, 0, none⟩) (p + 1) cn)) = y9 at *
      generalize Value.slice (some ⟨gn, 0, none⟩) (p + 1) cn = nv' at *
      refine done_ (by kernel_rfl) ?_
      go_wp2_with fail
      refine start_ (n := 11) (S := OB wb nv' ov) (ds := [10]) #[false, false, false, false, false, false, false, false, false, false, false] (by kernel_rfl) rfl rfl (AdM.ob (HM.out.on ((Below.refl _ _).drew))) (fun hHeld => ?_)
      have hbd : Below y9.heap.size y9 y9.drew := (Below.refl _ _).drew
      replace HM := Lib.hid (HM.out.on hbd)
      clear hbd
      generalize y9.drew = y10 at *
      refine pure_ (i := 0) (N := some 59) (v := ?_) (a' := ?_) #[true, false, false, false, false, false, false, false, false, false, false] rfl rfl (by kernel_rfl) (fun _ _ _ h => h) (Or.inl ⟨by rfl, ?_⟩) ?_ ?_
      rotate_left
      · intro w'; go_simp; with_reducible rfl
      rotate_left
      · simp only [Act.put, List.setIfInBounds_toArray, List.set_cons_zero, List.set_cons_succ, i64_w, i32_w]; rfl
      refine pure_ (i := 2) (N := some 61) (v := ?_) (a' := ?_) #[true, false, true, false, false, false, false, false, false, false, false] rfl rfl (by kernel_rfl) (fun _ _ _ h => h) (Or.inl ⟨by rfl, ?_⟩) ?_ ?_
      rotate_left
      · intro w'; go_simp; with_reducible rfl
      rotate_left
      · simp only [Act.put, List.setIfInBounds_toArray, List.set_cons_zero, List.set_cons_succ, i64_w, i32_w]; rfl
      refine pure_ (i := 4) (N := some 63) (v := ?_) (a' := ?_) #[true, false, true, false, true, false, false, false, false, false, false] rfl rfl (by kernel_rfl) (fun _ _ _ h => h) (Or.inl ⟨by rfl, ?_⟩) ?_ ?_
      rotate_left
      · intro w'; go_simp; with_reducible rfl
      rotate_left
      · simp only [Act.put, List.setIfInBounds_toArray, List.set_cons_zero, List.set_cons_succ, i64_w, i32_w]; rfl
      refine take_ (i := 1) (N := some 60) (v := ?_) (a' := ?_) #[true, true, true, false, true, false, false, false, false, false, false] rfl rfl (by kernel_rfl) (fun _ _ _ h => h) (Or.inl ⟨by rfl, ?_⟩) hHeld ?_ ?_
      rotate_left
      · intro w' hh; have s3 := hh.1.c3; clear hh; go_simp; with_reducible rfl
      rotate_left
      · simp only [Act.put, List.setIfInBounds_toArray, List.set_cons_zero, List.set_cons_succ, i64_w, i32_w]; rfl
      refine take_ (i := 3) (N := some 62) (v := ?_) (a' := ?_) #[true, true, true, true, true, false, false, false, false, false, false] rfl rfl (by kernel_rfl) (fun _ _ _ h => h) (Or.inl ⟨by rfl, ?_⟩) hHeld ?_ ?_
      rotate_left
      · intro w' hh; have hg := HK7.out.on hh.2; have s3 := hg.c 3 rfl; clear hg; clear hh; go_simp; with_reducible rfl
      rotate_left
      · simp only [Act.put, List.setIfInBounds_toArray, List.set_cons_zero, List.set_cons_succ, i64_w, i32_w]; rfl
      refine pure_ (i := 5) (N := some 64) (v := ?_) (a' := ?_) #[true, true, true, true, true, true, false, false, false, false, false] rfl rfl (by kernel_rfl) (fun _ _ _ h => h) (Or.inl ⟨by rfl, ?_⟩) ?_ ?_
      rotate_left
      · intro w'; go_simp; with_reducible rfl
      rotate_left
      · simp only [Act.put, List.setIfInBounds_toArray, List.set_cons_zero, List.set_cons_succ, i64_w, i32_w]; rfl
      refine take_ (i := 6) (N := some 65) (v := ?_) (a' := ?_) #[true, true, true, true, true, true, true, false, false, false, false] rfl rfl (by kernel_rfl) (fun _ _ _ h => h) (Or.inl ⟨by rfl, ?_⟩) hHeld ?_ ?_
      rotate_left
      · intro w' hh; have e0 := (hh.2.cell (p := ⟨bV, oV + kk * 5, none⟩) HBV.out).trans HVC.out.1; have e1 := (hh.2.cell (p := ⟨bV, oV + kk * 5 + 1, none⟩) HBV.out).trans HVC.out.2.1; have e2 := (hh.2.cell (p := ⟨bV, oV + kk * 5 + 2, none⟩) HBV.out).trans HVC.out.2.2.1; have e3 := (hh.2.cell (p := ⟨bV, oV + kk * 5 + 3, none⟩) HBV.out).trans HVC.out.2.2.2.1; have e4 := (hh.2.cell (p := ⟨bV, oV + kk * 5 + 4, none⟩) HBV.out).trans HVC.out.2.2.2.2; clear hh; go_simp; with_reducible rfl
      rotate_left
      · simp only [Act.put, List.setIfInBounds_toArray, List.set_cons_zero, List.set_cons_succ, i64_w, i32_w]; rfl
      refine one_ (i := 7) (N := some 66) #[true, true, true, true, true, true, true, true, false, false, false] rfl rfl (by kernel_rfl) (by decide) (fun K hK => ?_)
      refine value_ (w1 := (y10.alloc (.cells #[v0, v1, v2, v3, v4] 25))) (v := .slice (some ⟨y10.heap.size, 0, none⟩) 1 1) rfl rfl ?_ ?_
      · go_simp
        all_goals first | rfl | (constructor <;> rfl)
      have hba := (Below.refl y10.heap.size y10).alloc (Nat.le_refl _) (.cells #[v0, v1, v2, v3, v4] 25)
      have Hq := Lib.hid (AdM.tb HM.out 25 #[v0, v1, v2, v3, v4])
      replace HM := Lib.hid (HM.out.on hba)
      refine hK.out _ _ HM.out.ob (fun hHeld2 => ?_)
      clear hK K hHeld
      have hHeld := hHeld2
      clear hHeld2 hba
      refine norm_ (a' := ?_) ?_ ?_
      rotate_left
      · show Act.put _ (some 66) _ = _; simp only [Act.put, List.setIfInBounds_toArray, List.set_cons_zero, List.set_cons_succ, i64_w, i32_w]; rfl
      generalize (y10.alloc (.cells #[v0, v1, v2, v3, v4] 25)) = y11 at *
      generalize y10.heap.size = q_ at *
      refine one_ (i := 8) (N := some 67) #[true, true, true, true, true, true, true, true, true, false, false] rfl rfl (by kernel_rfl) (by decide) (fun K hK => ?_)
      refine step_append_lies _ rfl (.tmp 60) (.tmp 66) 22 rfl (wb.heap.size + 1) 25 i0 _ 5 80 Tryz.underlying22 HI0.out HZ0.out HZ1.out HZ2.out rfl (by omega) ov p xs (by rfl) HM.out.oown ⟨q_, 0, none⟩ 1 1 [v0, v1, v2, v3, v4] (by rfl) (by rfl) (World.news_of_block Hq.out.bk) HONE.out (by omega)
        (by unfold maxLen; have := HPL.out; omega) (by have := HPL.out; omega) HM.out.size _ rfl ?_
      intro go co y12 hown hgrow hat hlt
      replace HM := Lib.hid (HM.out.grow_o hown hgrow hat)
      refine hK.out _ _ HM.out.ob (fun hHeld2 => ?_)
      clear hK K hHeld hHeld2 hown hgrow hat hlt Hq
      refine norm_ (a' := ?_) ?_ ?_
      rotate_left
      · show Act.put _ (some 67) _ = _; simp only [Act.put, List.setIfInBounds_toArray, List.set_cons_zero, List.set_cons_succ, i64_w, i32_w]; rfl
      refine pure_ (i := 9) (N := some 68) (v := ?_) (a' := ?_) #[true, true, true, true, true, true, true, true, true, true, false] rfl rfl (by kernel_rfl) (fun _ _ _ h => h) (Or.inl ⟨by rfl, ?_⟩) ?_ ?_
      rotate_left
      · intro w'; go_simp; with_reducible rfl
      rotate_left
      · simp only [Act.put, List.setIfInBounds_toArray, List.set_cons_zero, List.set_cons_succ, i64_w, i32_w]; rfl
      refine last_ (i := 10) (N := none) #[true, true, true, true, true, true, true, true, true, true, true] rfl rfl (by kernel_rfl) (by decide) (fun K hK => ?_)
      have f3 := HM.out.out.fr 3
      have s3 := HM.out.out.c3
      refine skip_ (w1 := (y12.setCell ⟨wb.heap.size, 3, none⟩ (.slice (some ⟨go, 0, none⟩) (p + 1) co))) rfl rfl ?_ (hK.out _ _ ?_)
      · go_simp
        all_goals first | rfl | (constructor <;> rfl)
      clear hK K f3 s3
      replace HM := Lib.hid HM.out.putO
      generalize (y12.setCell ⟨wb.heap.size, 3, none⟩ (.slice (some ⟨go, 0, none⟩) (p + 1) co)) = y13 at *
      generalize Value.slice (some ⟨go, 0, none⟩) (p + 1) co = ov' at *
      refine done_ (by kernel_rfl) ?_
      go_wp2
      go_roundg (gk - 1)
      case measure => have := HP.out; omega
      case rel => exact ⟨p + 1, _, _, _, _, by have := HP.out; omega, by have := HPL.out; rw [show wrap64 ((p : Int) + 1) = ((p + 1 : Nat) : Int) by unfold wrap64; omega], HM.out, HNS2.out, HVR2.out⟩
    · have hd0 : decide ((p : Int) < (n : Int)) = false := by simp; omega
      have hd1 : decide (p < n) = false := by simp; omega
      have hpn : n = p := by have := HP.out; omega
      have hns : (rotP P r).length = p := by rw [rot_len, HN.out]; exact hpn
      subst hpn
      have htk : ns = ((rotP P r).map (fun (x : ByteArray × VT) => x.1)).map Value.string := by rw [HNS.out, List.take_of_length_le (by omega), List.map_map]; rfl
      have HAm := HM
      clear HM
      have HM := HM_
      clear HM_
      rw [htk] at HAm
      have HL := Lib.hid hns
      clear hns htk HNS hlt
      have HCK := Lib.hid (fun W z v (hv : VLV z t W v) => vCheck_any t W _ v hv (z.lt W) (by have := HKt.out; omega))
      have HDP := Lib.hid (fun W z v (hv : VLV z t W v) => refDepth_any t W _ v hv (z.lt W) (by have := HKt.out; omega))
      have HMAY := Lib.hid (fun (h1 : t.check = 0) => (VT.check_zero.1 h1).1)
      obtain ⟨ck, hck⟩ : ∃ c, t.check = c := ⟨_, rfl⟩
      obtain ⟨dp, hdp⟩ : ∃ c, t.depth = c := ⟨_, rfl⟩
      have HDEP := Lib.hid hdp
      rw [hck] at HCK HMAY
      rw [hdp] at HDP
      clear hck hdp
      have hg := (Blks.hd (Blks.tl (Blks.tl HK.out))).on HAm.out.below
      have u0 := hg.c 0 rfl
      have u1 := hg.c 1 rfl
      have u2 := hg.c 2 rfl
      have u3 := hg.c 3 rfl
      have u4 := hg.c 4 rfl
      clear hg
      go_wp2_with fail
      clear hd0 hd1 u0 u1 u2 u3 u4
      refine (HCK.out wr _ _ (HVt.out.up HAm.out.below)).mono ?_
      rintro e w1_ ⟨rfl, hb⟩
      replace HAm := Lib.hid (HAm.out.on hb)
      clear hb HCK
      by_cases hc : ¬ ck = 0
      · have q1 := beq_f hc
        clear hc
        have HAD : Hid (AdV wb ((rotP P r).map (fun (x : ByteArray × VT) => x.1)) ((rotP P r).map (fun (x : ByteArray × VT) => x.2)) w1_.heap.size w1_) := Lib.hid ⟨nv, ov, xs, by rw [List.length_map, HL.out]; exact HAm.out.from (fun _ h => h.elim), by rw [List.length_map, HL.out]; exact HVR.out.same (below_same HAm.out.below (fun b h => h)) (fun b hb => ⟨Nat.lt_of_lt_of_le hb HAm.out.below.size, Nat.ne_of_lt hb, (fun e => by have := (HAm.out.nown.lt b e).1; omega), (fun e => by have := (HAm.out.oown.lt b e).1; omega)⟩), by rw [List.length_map, List.length_map], Nat.le_refl _, by have := HAm.out.size; omega, (fun b e => (HAm.out.nown.lt b e).2), (fun b e => (HAm.out.oown.lt b e).2)⟩
        clear HAm HVR
        have hpt : obT ((rotP P r).map (fun (x : ByteArray × VT) => x.1)) ((rotP P r).map (fun (x : ByteArray × VT) => x.2)) = pairT (rotP P r ++ []) := by
          unfold pairT
          rw [List.append_nil]
        obtain ⟨OA, oc, NA, nc, hbk, hvl⟩ := HAD.out.obj
        rw [hpt] at hvl
        have HVL := Lib.hid hvl
        have HBK := Lib.hid hbk
        have hs := HSAY.out r [] (.inl rfl)
        have hbl : (pairT (rotP P r ++ [])).bulk ≤ 6200000 := by
          have h1 := pair_bulk_perm (rot_perm P r)
          have h2 := HTB.out
          have h3 := HKt.out
          rw [List.append_nil]; omega
        clear hvl hbk hpt
        have HPB := Lib.hid (fun W z v (hv : VLV z (pairT (rotP P r ++ [])) W v) (hM : ML W) => Parse_any (pairT (rotP P r ++ [])) z v W hv hM (by omega))
        have HSE := Lib.hid (fun W z z' v v' (hv : MSV z ⟨mk, mid, mme, mha, mpa, mre, mco, mte⟩ W v) (hv' : MSV z' (pairT (rotP P r ++ [])).readM W v') => HSM.out W z z' v v' _ hv hv' (by have := readM_bulk5 (pairT (rotP P r ++ [])); omega))
        rw [hs.1] at HPB
        rw [hs.2] at HSE
        clear hs hbl HSM HSAY HTB
        generalize (pairT (rotP P r ++ [])).readM = mB at *
        generalize pairT (rotP P r ++ []) = tr at *
        have hb := HAD.out.below
        replace HVi := Lib.hid (HVi.out.up hb)
        replace HVp := Lib.hid (HVp.out.up hb)
        replace HVr := Lib.hid (HVr.out.up hb)
        replace HVt := Lib.hid (HVt.out.up hb)
        replace HM := Lib.hid (HM.out.on hb)
        replace HPT := Lib.hid (HPT.out.on hb)
        replace HMS := Lib.hid (HMS.out.up hb)
        replace HVv := Lib.hid (HVv.out.up hb)
        replace HK := Lib.hid (HK.out.on hb)
        replace HB := Lib.hid (HB.out.trans (hb.mono HB.out.size))
        clear hb HAD
        obtain ⟨l1, hl1⟩ : ∃ n, ((rotP P r).map (fun (x : ByteArray × VT) => x.1)).length = n := ⟨_, rfl⟩
        obtain ⟨l2, hl2⟩ : ∃ n, ((rotP P r).map (fun (x : ByteArray × VT) => x.2)).length = n := ⟨_, rfl⟩
        rw [hl1, hl2] at HVL HBK
        clear hl1 hl2
        have hg := HBK.out
        have u0 := hg.c 0 rfl
        have u1 := hg.c 1 rfl
        have u2 := hg.c 2 rfl
        have u3 := hg.c 3 rfl
        have u4 := hg.c 4 rfl
        clear hg
        go_upto_region 17 with (fail)
        try clear q1
        try clear HNA
        try clear HVA
        try clear HK7
        try clear HBN
        try clear HBV
        try clear HI0
        try clear HZ0
        try clear HZ1
        try clear HZ2
        try clear HJ0
        try clear HJZ0
        try clear HJZ1
        try clear HJZ2
        try clear HBR
        try clear HR
        try clear HDP
        try clear HMAY
        try clear HDEP
        try clear HD
        try clear HYX
        try clear HXT
        try clear HMA
        try clear HL
        try clear HP
        try clear HN
        try clear HPL
        try clear HP0
        go_wp2_with fail
        clear u0 u1 u2 u3 u4 HBK
        refine (HPB.out w1_ _ _ HVL.out HM.out).mono ?_
        rintro e z6 ⟨v', rfl, hm, hb⟩
        have HMY := Lib.hid hm
        obtain ⟨iY0, iY1, iY2, iY3, iY4, pY0, pY1, pY2, pY3, pY4, rY0, rY1, rY2, rY3, rY4, he, q1, q2, q3⟩ := hm
        subst he
        obtain ⟨kYi, bYi, xYi, AYi, nYi, cYi, BYi, mYi, dYi, rfl, rfl, rfl, rfl, rfl⟩ := VAL.shape5 q1.1
        obtain ⟨kYp, bYp, xYp, AYp, nYp, cYp, BYp, mYp, dYp, rfl, rfl, rfl, rfl, rfl⟩ := VAL.shape5 q2.1
        obtain ⟨kYr, bYr, xYr, AYr, nYr, cYr, BYr, mYr, dYr, rfl, rfl, rfl, rfl, rfl⟩ := VAL.shape5 q3.1
        clear q1 q2 q3
        replace HVi := Lib.hid (HVi.out.up hb)
        replace HVp := Lib.hid (HVp.out.up hb)
        replace HVr := Lib.hid (HVr.out.up hb)
        replace HVt := Lib.hid (HVt.out.up hb)
        replace HM := Lib.hid (HM.out.on hb)
        replace HPT := Lib.hid (HPT.out.on hb)
        replace HMS := Lib.hid (HMS.out.up hb)
        replace HVv := Lib.hid (HVv.out.up hb)
        replace HK := Lib.hid (HK.out.on hb)
        replace HB := Lib.hid (HB.out.trans (hb.mono HB.out.size))
        clear hb
        go_upto_region 18 with (
          refine isSa 46 13 (.tmp 94) rfl ?_
          refine store1 rfl rfl 46 (.tmp 13) (.tmp 94) rfl rfl #[.int .i64 mB.kind, .int .i64 kYi, .bool bYi, .string xYi, .slice AYi nYi cYi, .slice BYi mYi dYi, .string mB.method, .bool mB.has, .int .i64 kYp, .bool bYp, .string xYp, .slice AYp nYp cYp, .slice BYp mYp dYp, .int .i64 kYr, .bool bYr, .string xYr, .slice AYr nYr cYr, .slice BYr mYr dYr, .int .i64 mB.code, .string mB.text] rfl (by kernel_rfl) rfl (by simp [Value.oneCell']) ?_
          intro z7 hX hb hz
          replace HVi := Lib.hid (HVi.out.up hb)
          replace HVp := Lib.hid (HVp.out.up hb)
          replace HVr := Lib.hid (HVr.out.up hb)
          replace HVt := Lib.hid (HVt.out.up hb)
          replace HM := Lib.hid (HM.out.on hb)
          replace HPT := Lib.hid (HPT.out.on hb)
          replace HMS := Lib.hid (HMS.out.up hb)
          replace HVv := Lib.hid (HVv.out.up hb)
          replace HMY := Lib.hid (HMY.out.up hb)
          replace HK := Lib.hid (HK.out.on hb)
          replace HB := Lib.hid (HB.out.trans (hb.mono HB.out.size))
          replace HK := Lib.hid (Blks.cons hX HK.out)
          clear hX hb hz
          generalize z6.heap.size = g13 at *)
        go_wp2_with (first
          | (refine isLda 46 3 rfl ?_; refine load_blk (by rfl) 46 (.tmp 3) rfl w.heap.size rfl (Blks.hd (Blks.tl (Blks.tl (Blks.tl (Blks.tl HK.out))))) _ Tryz.underlying46 rfl (by kernel_rfl) ?_)
          | (refine isLda 46 13 rfl ?_; refine load_blk (by rfl) 46 (.tmp 13) rfl g13 rfl (Blks.hd HK.out) _ Tryz.underlying46 rfl (by kernel_rfl) ?_))
        refine (HSE.out z7 _ _ _ _ HMS.out HMY.out.any).mono ?_
        rintro e z8 ⟨rfl, hb⟩
        replace HVi := Lib.hid (HVi.out.up hb)
        replace HVp := Lib.hid (HVp.out.up hb)
        replace HVr := Lib.hid (HVr.out.up hb)
        replace HVt := Lib.hid (HVt.out.up hb)
        replace HM := Lib.hid (HM.out.on hb)
        replace HPT := Lib.hid (HPT.out.on hb)
        replace HMS := Lib.hid (HMS.out.up hb)
        replace HVv := Lib.hid (HVv.out.up hb)
        replace HMY := Lib.hid (HMY.out.up hb)
        replace HK := Lib.hid (HK.out.on hb)
        replace HB := Lib.hid (HB.out.trans (hb.mono HB.out.size))
        clear hb HMY
        go_wp2_with fail
        refine (awake12_any z8 HM.out).mono ?_
        rintro e z9 ⟨rfl, hb⟩
        replace HVi := Lib.hid (HVi.out.up hb)
        replace HVp := Lib.hid (HVp.out.up hb)
        replace HVr := Lib.hid (HVr.out.up hb)
        replace HVt := Lib.hid (HVt.out.up hb)
        replace HM := Lib.hid (HM.out.on hb)
        replace HPT := Lib.hid (HPT.out.on hb)
        replace HMS := Lib.hid (HMS.out.up hb)
        replace HVv := Lib.hid (HVv.out.up hb)
        replace HK := Lib.hid (HK.out.on hb)
        replace HB := Lib.hid (HB.out.trans (hb.mono HB.out.size))
        clear hb
        go_wp2
        go_ret
        exact ⟨rfl, HB.out⟩
      replace hc := Classical.not_not.1 hc
      subst hc
      have HMA := Lib.hid (HMAY.out (by first | rfl | trivial))
      clear HMAY
      have hg := (Blks.hd (Blks.tl (Blks.tl HK.out))).on HAm.out.below
      have u0 := hg.c 0 rfl
      have u1 := hg.c 1 rfl
      have u2 := hg.c 2 rfl
      have u3 := hg.c 3 rfl
      have u4 := hg.c 4 rfl
      clear hg
      go_wp2_with fail
      clear u0 u1 u2 u3 u4
      refine (HDP.out w1_ _ _ (HVt.out.up HAm.out.below)).mono ?_
      rintro e w2_ ⟨rfl, hb⟩
      replace HAm := Lib.hid (HAm.out.on hb)
      clear hb HDP
      by_cases hd : ¬ dp < 127
      · have q1 : decide ((dp : Int) < 127) = false := by simp; omega
        have q2 : decide (dp < 127) = false := by simp; omega
        clear hd
        have HAD : Hid (AdV wb ((rotP P r).map (fun (x : ByteArray × VT) => x.1)) ((rotP P r).map (fun (x : ByteArray × VT) => x.2)) w2_.heap.size w2_) := Lib.hid ⟨nv, ov, xs, by rw [List.length_map, HL.out]; exact HAm.out.from (fun _ h => h.elim), by rw [List.length_map, HL.out]; exact HVR.out.same (below_same HAm.out.below (fun b h => h)) (fun b hb => ⟨Nat.lt_of_lt_of_le hb HAm.out.below.size, Nat.ne_of_lt hb, (fun e => by have := (HAm.out.nown.lt b e).1; omega), (fun e => by have := (HAm.out.oown.lt b e).1; omega)⟩), by rw [List.length_map, List.length_map], Nat.le_refl _, by have := HAm.out.size; omega, (fun b e => (HAm.out.nown.lt b e).2), (fun b e => (HAm.out.oown.lt b e).2)⟩
        clear HAm HVR
        have hpt : obT ((rotP P r).map (fun (x : ByteArray × VT) => x.1)) ((rotP P r).map (fun (x : ByteArray × VT) => x.2)) = pairT (rotP P r ++ []) := by
          unfold pairT
          rw [List.append_nil]
        obtain ⟨OA, oc, NA, nc, hbk, hvl⟩ := HAD.out.obj
        rw [hpt] at hvl
        have HVL := Lib.hid hvl
        have HBK := Lib.hid hbk
        have hs := HSAY.out r [] (.inl rfl)
        have hbl : (pairT (rotP P r ++ [])).bulk ≤ 6200000 := by
          have h1 := pair_bulk_perm (rot_perm P r)
          have h2 := HTB.out
          have h3 := HKt.out
          rw [List.append_nil]; omega
        clear hvl hbk hpt
        have HPB := Lib.hid (fun W z v (hv : VLV z (pairT (rotP P r ++ [])) W v) (hM : ML W) => Parse_any (pairT (rotP P r ++ [])) z v W hv hM (by omega))
        have HSE := Lib.hid (fun W z z' v v' (hv : MSV z ⟨mk, mid, mme, mha, mpa, mre, mco, mte⟩ W v) (hv' : MSV z' (pairT (rotP P r ++ [])).readM W v') => HSM.out W z z' v v' _ hv hv' (by have := readM_bulk5 (pairT (rotP P r ++ [])); omega))
        rw [hs.1] at HPB
        rw [hs.2] at HSE
        clear hs hbl HSM HSAY HTB
        generalize (pairT (rotP P r ++ [])).readM = mB at *
        generalize pairT (rotP P r ++ []) = tr at *
        have hb := HAD.out.below
        replace HVi := Lib.hid (HVi.out.up hb)
        replace HVp := Lib.hid (HVp.out.up hb)
        replace HVr := Lib.hid (HVr.out.up hb)
        replace HVt := Lib.hid (HVt.out.up hb)
        replace HM := Lib.hid (HM.out.on hb)
        replace HPT := Lib.hid (HPT.out.on hb)
        replace HMS := Lib.hid (HMS.out.up hb)
        replace HVv := Lib.hid (HVv.out.up hb)
        replace HK := Lib.hid (HK.out.on hb)
        replace HB := Lib.hid (HB.out.trans (hb.mono HB.out.size))
        clear hb HAD
        obtain ⟨l1, hl1⟩ : ∃ n, ((rotP P r).map (fun (x : ByteArray × VT) => x.1)).length = n := ⟨_, rfl⟩
        obtain ⟨l2, hl2⟩ : ∃ n, ((rotP P r).map (fun (x : ByteArray × VT) => x.2)).length = n := ⟨_, rfl⟩
        rw [hl1, hl2] at HVL HBK
        clear hl1 hl2
        have hg := HBK.out
        have u0 := hg.c 0 rfl
        have u1 := hg.c 1 rfl
        have u2 := hg.c 2 rfl
        have u3 := hg.c 3 rfl
        have u4 := hg.c 4 rfl
        clear hg
        go_upto_region 17 with (fail)
        try clear q1
        try clear HNA
        try clear HVA
        try clear HK7
        try clear HBN
        try clear HBV
        try clear HI0
        try clear HZ0
        try clear HZ1
        try clear HZ2
        try clear HJ0
        try clear HJZ0
        try clear HJZ1
        try clear HJZ2
        try clear HBR
        try clear HR
        try clear HDP
        try clear HMAY
        try clear HDEP
        try clear HD
        try clear HYX
        try clear HXT
        try clear HMA
        try clear HL
        try clear HP
        try clear HN
        try clear HPL
        try clear HP0
        go_wp2_with fail
        clear u0 u1 u2 u3 u4 HBK
        refine (HPB.out w2_ _ _ HVL.out HM.out).mono ?_
        rintro e z6 ⟨v', rfl, hm, hb⟩
        have HMY := Lib.hid hm
        obtain ⟨iY0, iY1, iY2, iY3, iY4, pY0, pY1, pY2, pY3, pY4, rY0, rY1, rY2, rY3, rY4, he, q1, q2, q3⟩ := hm
        subst he
        obtain ⟨kYi, bYi, xYi, AYi, nYi, cYi, BYi, mYi, dYi, rfl, rfl, rfl, rfl, rfl⟩ := VAL.shape5 q1.1
        obtain ⟨kYp, bYp, xYp, AYp, nYp, cYp, BYp, mYp, dYp, rfl, rfl, rfl, rfl, rfl⟩ := VAL.shape5 q2.1
        obtain ⟨kYr, bYr, xYr, AYr, nYr, cYr, BYr, mYr, dYr, rfl, rfl, rfl, rfl, rfl⟩ := VAL.shape5 q3.1
        clear q1 q2 q3
        replace HVi := Lib.hid (HVi.out.up hb)
        replace HVp := Lib.hid (HVp.out.up hb)
        replace HVr := Lib.hid (HVr.out.up hb)
        replace HVt := Lib.hid (HVt.out.up hb)
        replace HM := Lib.hid (HM.out.on hb)
        replace HPT := Lib.hid (HPT.out.on hb)
        replace HMS := Lib.hid (HMS.out.up hb)
        replace HVv := Lib.hid (HVv.out.up hb)
        replace HK := Lib.hid (HK.out.on hb)
        replace HB := Lib.hid (HB.out.trans (hb.mono HB.out.size))
        clear hb
        go_upto_region 18 with (
          refine isSa 46 13 (.tmp 94) rfl ?_
          refine store1 rfl rfl 46 (.tmp 13) (.tmp 94) rfl rfl #[.int .i64 mB.kind, .int .i64 kYi, .bool bYi, .string xYi, .slice AYi nYi cYi, .slice BYi mYi dYi, .string mB.method, .bool mB.has, .int .i64 kYp, .bool bYp, .string xYp, .slice AYp nYp cYp, .slice BYp mYp dYp, .int .i64 kYr, .bool bYr, .string xYr, .slice AYr nYr cYr, .slice BYr mYr dYr, .int .i64 mB.code, .string mB.text] rfl (by kernel_rfl) rfl (by simp [Value.oneCell']) ?_
          intro z7 hX hb hz
          replace HVi := Lib.hid (HVi.out.up hb)
          replace HVp := Lib.hid (HVp.out.up hb)
          replace HVr := Lib.hid (HVr.out.up hb)
          replace HVt := Lib.hid (HVt.out.up hb)
          replace HM := Lib.hid (HM.out.on hb)
          replace HPT := Lib.hid (HPT.out.on hb)
          replace HMS := Lib.hid (HMS.out.up hb)
          replace HVv := Lib.hid (HVv.out.up hb)
          replace HMY := Lib.hid (HMY.out.up hb)
          replace HK := Lib.hid (HK.out.on hb)
          replace HB := Lib.hid (HB.out.trans (hb.mono HB.out.size))
          replace HK := Lib.hid (Blks.cons hX HK.out)
          clear hX hb hz
          generalize z6.heap.size = g13 at *)
        go_wp2_with (first
          | (refine isLda 46 3 rfl ?_; refine load_blk (by rfl) 46 (.tmp 3) rfl w.heap.size rfl (Blks.hd (Blks.tl (Blks.tl (Blks.tl (Blks.tl HK.out))))) _ Tryz.underlying46 rfl (by kernel_rfl) ?_)
          | (refine isLda 46 13 rfl ?_; refine load_blk (by rfl) 46 (.tmp 13) rfl g13 rfl (Blks.hd HK.out) _ Tryz.underlying46 rfl (by kernel_rfl) ?_))
        refine (HSE.out z7 _ _ _ _ HMS.out HMY.out.any).mono ?_
        rintro e z8 ⟨rfl, hb⟩
        replace HVi := Lib.hid (HVi.out.up hb)
        replace HVp := Lib.hid (HVp.out.up hb)
        replace HVr := Lib.hid (HVr.out.up hb)
        replace HVt := Lib.hid (HVt.out.up hb)
        replace HM := Lib.hid (HM.out.on hb)
        replace HPT := Lib.hid (HPT.out.on hb)
        replace HMS := Lib.hid (HMS.out.up hb)
        replace HVv := Lib.hid (HVv.out.up hb)
        replace HMY := Lib.hid (HMY.out.up hb)
        replace HK := Lib.hid (HK.out.on hb)
        replace HB := Lib.hid (HB.out.trans (hb.mono HB.out.size))
        clear hb HMY
        go_wp2_with fail
        refine (awake12_any z8 HM.out).mono ?_
        rintro e z9 ⟨rfl, hb⟩
        replace HVi := Lib.hid (HVi.out.up hb)
        replace HVp := Lib.hid (HVp.out.up hb)
        replace HVr := Lib.hid (HVr.out.up hb)
        replace HVt := Lib.hid (HVt.out.up hb)
        replace HM := Lib.hid (HM.out.on hb)
        replace HPT := Lib.hid (HPT.out.on hb)
        replace HMS := Lib.hid (HMS.out.up hb)
        replace HVv := Lib.hid (HVv.out.up hb)
        replace HK := Lib.hid (HK.out.on hb)
        replace HB := Lib.hid (HB.out.trans (hb.mono HB.out.size))
        clear hb
        go_wp2
        go_ret
        exact ⟨rfl, HB.out⟩
      replace hd := Classical.not_not.1 hd
      have q1 : decide ((dp : Int) < 127) = true := by simp; omega
      have q2 : decide (dp < 127) = true := by simp; omega
      have HD := Lib.hid hd
      obtain ⟨yx, hyx⟩ : ∃ y, y = ByteArray.mk (#[120] ++ xt.data) := ⟨_, rfl⟩
      have HYX := Lib.hid hyx
      have HXT : Hid (xt = t.text) := Lib.hid (by obtain ⟨_, _, _, _, _, _, e⟩ := HVt.out.parts; injection e with e; injection e with e; injection e with _ e; injection e with _ e; injection e with e _; injection e)
      have hcat : ∀ W : World, (Op.stringOp .add ⟨#[120]⟩ xt).run Tryz.prog W = .ok (.string yx) W := fun W => by
        rw [run_string_add_sum W _ _ (by have h1 := VT.text_bulk t; have h2 := HKt.out; rw [HXT.out]; show 1 + t.text.size ≤ _; omega), hyx, show (⟨#[120]⟩ : ByteArray) ++ xt = ⟨#[120] ++ xt.data⟩ from ByteArray.ext (by simp)]
      clear hd hyx
      have hg := (Blks.hd (Blks.tl (Blks.tl HK.out))).on HAm.out.below
      have u0 := hg.c 0 rfl
      have u1 := hg.c 1 rfl
      have u2 := hg.c 2 rfl
      have u3 := hg.c 3 rfl
      have u4 := hg.c 4 rfl
      clear hg
      have s4 := HAm.out.out.c4
      go_upto_region 16 with (
        refine isAp (.tmp 78) (.tmp 82) 23 rfl ?_
        have hba := (Below.refl w2_.heap.size w2_).alloc (Nat.le_refl _) (.cells #[.string yx] 9)
        have Hq := Lib.hid (AdM.tb HAm.out 9 #[.string yx])
        replace HAm := Lib.hid (HAm.out.on hba)
        clear hba
        generalize (w2_.alloc (.cells #[.string yx] 9)) = w3_ at *
        generalize w2_.heap.size = q_ at *
        refine wpList_append_lies _ rfl (.tmp 78) (.tmp 82) 23 rfl (wb.heap.size + 1) 9 j0 _ 1 16 Tryz.underlying23 HJ0.out HJZ0.out HJZ1.out HJZ2.out rfl (by omega) nv n _ (by rfl) HAm.out.nown ⟨q_, 0, none⟩ 1 1 [.string yx] (by rfl) (by rfl) (World.news_of_block Hq.out.bk) (by intro u hu; simp only [List.mem_singleton] at hu; subst hu; rfl) (by omega)
          (by unfold maxLen; have := HPL.out; omega) (by have := HPL.out; omega) HAm.out.size _ rfl ?_
        intro gn cn w4_ hown hgrow hat hlt
        replace HAm := Lib.hid (HAm.out.grow_n hown hgrow hat)
        clear hown hgrow hat hlt Hq
        have f4 := HAm.out.out.fr 4
        have s4 := HAm.out.out.c4)
      replace HAm := Lib.hid HAm.out.putN
      generalize (w4_.setCell ⟨wb.heap.size, 4, none⟩ (.slice (some ⟨gn, 0, none⟩) (n + 1) cn)) = w5_ at *
      generalize Value.slice (some ⟨gn, 0, none⟩) (n + 1) cn = nv' at *
      try clear s4 f4
      clear hcat u0 u1 u2 u3 u4
      have hg := (Blks.hd (Blks.tl (Blks.tl HK.out))).on HAm.out.below
      have u0 := hg.c 0 rfl
      have u1 := hg.c 1 rfl
      have u2 := hg.c 2 rfl
      have u3 := hg.c 3 rfl
      have u4 := hg.c 4 rfl
      clear hg
      have s3 := HAm.out.out.c3
      go_upto_region 17 with (
        refine isAp (.tmp 86) (.tmp 88) 22 rfl ?_
        have hba := (Below.refl w5_.heap.size w5_).alloc (Nat.le_refl _) (.cells #[.int .i64 kt, .bool bt, .string xt, .slice At nt ct, .slice Bt mt dt] 25)
        have Hq := Lib.hid (AdM.tb HAm.out 25 #[.int .i64 kt, .bool bt, .string xt, .slice At nt ct, .slice Bt mt dt])
        replace HAm := Lib.hid (HAm.out.on hba)
        clear hba
        generalize (w5_.alloc (.cells #[.int .i64 kt, .bool bt, .string xt, .slice At nt ct, .slice Bt mt dt] 25)) = w6_ at *
        generalize w5_.heap.size = q_ at *
        refine wpList_append_lies _ rfl (.tmp 86) (.tmp 88) 22 rfl (wb.heap.size + 1) 25 i0 _ 5 80 Tryz.underlying22 HI0.out HZ0.out HZ1.out HZ2.out rfl (by omega) ov n xs (by rfl) HAm.out.oown ⟨q_, 0, none⟩ 1 1 [.int .i64 kt, .bool bt, .string xt, .slice At nt ct, .slice Bt mt dt] (by rfl) (by rfl) (World.news_of_block Hq.out.bk) (VAL.one HVt.out) (by omega)
          (by unfold maxLen; have := HPL.out; omega) (by have := HPL.out; omega) HAm.out.size _ rfl ?_
        intro go co w7_ hown hgrow hat hlt
        replace HAm := Lib.hid (HAm.out.grow_o hown hgrow hat)
        clear hown hgrow hat hlt Hq
        have f3 := HAm.out.out.fr 3
        have s3 := HAm.out.out.c3)
      replace HAm := Lib.hid HAm.out.putO
      generalize (w7_.setCell ⟨wb.heap.size, 3, none⟩ (.slice (some ⟨go, 0, none⟩) (n + 1) co)) = w8_ at *
      generalize Value.slice (some ⟨go, 0, none⟩) (n + 1) co = ov' at *
      try clear s3 f3
      clear u0 u1 u2 u3 u4
      have HVR2 : Hid (VR wb (fun b => b < wb.heap.size) (xs ++ [.int .i64 kt, .bool bt, .string xt, .slice At nt ct, .slice Bt mt dt]) (n + 1) (fun j => ((rotP P r).map (fun (x : ByteArray × VT) => x.2) ++ [t]).getD j .leaf)) := Lib.hid (by
        refine (HVR.out.congr (c' := fun j => ((rotP P r).map (fun (x : ByteArray × VT) => x.2) ++ [t]).getD j .leaf) (fun j hj => by simp only [List.getD_eq_getElem?_getD]; rw [List.getElem?_append_left (by rw [List.length_map, HL.out]; exact hj)])).snoc ?_
        have e1 : ((rotP P r).map (fun (x : ByteArray × VT) => x.2) ++ [t]).getD n .leaf = t := by simp only [List.getD_eq_getElem?_getD]; rw [List.getElem?_append_right (by rw [List.length_map, HL.out]; exact Nat.le_refl _), List.length_map, HL.out]; simp
        show VAL _ _ (((rotP P r).map (fun (x : ByteArray × VT) => x.2) ++ [t]).getD n .leaf) _
        rw [e1]
        exact VAL.mono (fun b hb => hb.2) HVt.out)
      have hln : ((rotP P r).map (fun (x : ByteArray × VT) => x.1) ++ [yx]).length = n + 1 := by rw [List.length_append, List.length_map, HL.out]; rfl
      have hmp : ((rotP P r).map (fun (x : ByteArray × VT) => x.1) ++ [yx]).map Value.string = ((rotP P r).map (fun (x : ByteArray × VT) => x.1)).map Value.string ++ [.string yx] := by rw [List.map_append]; rfl
      have HAD : Hid (AdV wb ((rotP P r).map (fun (x : ByteArray × VT) => x.1) ++ [yx]) ((rotP P r).map (fun (x : ByteArray × VT) => x.2) ++ [t]) w8_.heap.size w8_) := Lib.hid ⟨nv', ov', xs ++ [.int .i64 kt, .bool bt, .string xt, .slice At nt ct, .slice Bt mt dt], by rw [hln, hmp]; exact HAm.out.from (fun _ h => h.elim), by rw [hln]; exact HVR2.out.same (below_same HAm.out.below (fun b h => h)) (fun b hb => ⟨Nat.lt_of_lt_of_le hb HAm.out.below.size, Nat.ne_of_lt hb, (fun e => by have := (HAm.out.nown.lt b e).1; omega), (fun e => by have := (HAm.out.oown.lt b e).1; omega)⟩), by rw [hln, List.length_append, List.length_map, HL.out]; rfl, Nat.le_refl _, by have := HAm.out.size; omega, (fun b e => (HAm.out.nown.lt b e).2), (fun b e => (HAm.out.oown.lt b e).2)⟩
      clear HAm HVR HVR2 hln hmp q1 q2
      have hpt : obT ((rotP P r).map (fun (x : ByteArray × VT) => x.1) ++ [yx]) ((rotP P r).map (fun (x : ByteArray × VT) => x.2) ++ [t]) = pairT (rotP P r ++ [(yx, t)]) := by
        unfold pairT
        rw [List.map_append, List.map_append]; rfl
      obtain ⟨OA, oc, NA, nc, hbk, hvl⟩ := HAD.out.obj
      rw [hpt] at hvl
      have HVL := Lib.hid hvl
      have HBK := Lib.hid hbk
      have hs := HSAY.out r [(yx, t)] (.inr ⟨yx, t, rfl, by rw [HYX.out]; exact x_first _, HMA.out, by rw [HDEP.out]; have := HD.out; omega⟩)
      have hbl : (pairT (rotP P r ++ [(yx, t)])).bulk ≤ 6200000 := by
        have h1 := pair_bulk_perm (rot_perm P r)
        have h2 := HTB.out
        have h3 := HKt.out
        rw [pair_bulk_more]
        have h4 : yx.size = 1 + xt.size := by rw [HYX.out]; show (#[120] ++ xt.data).size = _; rw [Array.size_append]; rfl
        have h5 := VT.text_bulk t
        rw [← HXT.out] at h5
        omega
      clear hvl hbk hpt
      have HPB := Lib.hid (fun W z v (hv : VLV z (pairT (rotP P r ++ [(yx, t)])) W v) (hM : ML W) => Parse_any (pairT (rotP P r ++ [(yx, t)])) z v W hv hM (by omega))
      have HSE := Lib.hid (fun W z z' v v' (hv : MSV z ⟨mk, mid, mme, mha, mpa, mre, mco, mte⟩ W v) (hv' : MSV z' (pairT (rotP P r ++ [(yx, t)])).readM W v') => HSM.out W z z' v v' _ hv hv' (by have := readM_bulk5 (pairT (rotP P r ++ [(yx, t)])); omega))
      rw [hs.1] at HPB
      rw [hs.2] at HSE
      clear hs hbl HSM HSAY HTB
      generalize (pairT (rotP P r ++ [(yx, t)])).readM = mB at *
      generalize pairT (rotP P r ++ [(yx, t)]) = tr at *
      have hb := HAD.out.below
      replace HVi := Lib.hid (HVi.out.up hb)
      replace HVp := Lib.hid (HVp.out.up hb)
      replace HVr := Lib.hid (HVr.out.up hb)
      replace HVt := Lib.hid (HVt.out.up hb)
      replace HM := Lib.hid (HM.out.on hb)
      replace HPT := Lib.hid (HPT.out.on hb)
      replace HMS := Lib.hid (HMS.out.up hb)
      replace HVv := Lib.hid (HVv.out.up hb)
      replace HK := Lib.hid (HK.out.on hb)
      replace HB := Lib.hid (HB.out.trans (hb.mono HB.out.size))
      clear hb HAD
      obtain ⟨l1, hl1⟩ : ∃ n, ((rotP P r).map (fun (x : ByteArray × VT) => x.1) ++ [yx]).length = n := ⟨_, rfl⟩
      obtain ⟨l2, hl2⟩ : ∃ n, ((rotP P r).map (fun (x : ByteArray × VT) => x.2) ++ [t]).length = n := ⟨_, rfl⟩
      rw [hl1, hl2] at HVL HBK
      clear hl1 hl2
      have hg := HBK.out
      have u0 := hg.c 0 rfl
      have u1 := hg.c 1 rfl
      have u2 := hg.c 2 rfl
      have u3 := hg.c 3 rfl
      have u4 := hg.c 4 rfl
      clear hg
      try clear q1
      try clear HNA
      try clear HVA
      try clear HK7
      try clear HBN
      try clear HBV
      try clear HI0
      try clear HZ0
      try clear HZ1
      try clear HZ2
      try clear HJ0
      try clear HJZ0
      try clear HJZ1
      try clear HJZ2
      try clear HBR
      try clear HR
      try clear HDP
      try clear HMAY
      try clear HDEP
      try clear HD
      try clear HYX
      try clear HXT
      try clear HMA
      try clear HL
      try clear HP
      try clear HN
      try clear HPL
      try clear HP0
      go_wp2_with fail
      clear u0 u1 u2 u3 u4 HBK
      refine (HPB.out w8_ _ _ HVL.out HM.out).mono ?_
      rintro e z6 ⟨v', rfl, hm, hb⟩
      have HMY := Lib.hid hm
      obtain ⟨iY0, iY1, iY2, iY3, iY4, pY0, pY1, pY2, pY3, pY4, rY0, rY1, rY2, rY3, rY4, he, q1, q2, q3⟩ := hm
      subst he
      obtain ⟨kYi, bYi, xYi, AYi, nYi, cYi, BYi, mYi, dYi, rfl, rfl, rfl, rfl, rfl⟩ := VAL.shape5 q1.1
      obtain ⟨kYp, bYp, xYp, AYp, nYp, cYp, BYp, mYp, dYp, rfl, rfl, rfl, rfl, rfl⟩ := VAL.shape5 q2.1
      obtain ⟨kYr, bYr, xYr, AYr, nYr, cYr, BYr, mYr, dYr, rfl, rfl, rfl, rfl, rfl⟩ := VAL.shape5 q3.1
      clear q1 q2 q3
      replace HVi := Lib.hid (HVi.out.up hb)
      replace HVp := Lib.hid (HVp.out.up hb)
      replace HVr := Lib.hid (HVr.out.up hb)
      replace HVt := Lib.hid (HVt.out.up hb)
      replace HM := Lib.hid (HM.out.on hb)
      replace HPT := Lib.hid (HPT.out.on hb)
      replace HMS := Lib.hid (HMS.out.up hb)
      replace HVv := Lib.hid (HVv.out.up hb)
      replace HK := Lib.hid (HK.out.on hb)
      replace HB := Lib.hid (HB.out.trans (hb.mono HB.out.size))
      clear hb
      go_upto_region 18 with (
        refine isSa 46 13 (.tmp 94) rfl ?_
        refine store1 rfl rfl 46 (.tmp 13) (.tmp 94) rfl rfl #[.int .i64 mB.kind, .int .i64 kYi, .bool bYi, .string xYi, .slice AYi nYi cYi, .slice BYi mYi dYi, .string mB.method, .bool mB.has, .int .i64 kYp, .bool bYp, .string xYp, .slice AYp nYp cYp, .slice BYp mYp dYp, .int .i64 kYr, .bool bYr, .string xYr, .slice AYr nYr cYr, .slice BYr mYr dYr, .int .i64 mB.code, .string mB.text] rfl (by kernel_rfl) rfl (by simp [Value.oneCell']) ?_
        intro z7 hX hb hz
        replace HVi := Lib.hid (HVi.out.up hb)
        replace HVp := Lib.hid (HVp.out.up hb)
        replace HVr := Lib.hid (HVr.out.up hb)
        replace HVt := Lib.hid (HVt.out.up hb)
        replace HM := Lib.hid (HM.out.on hb)
        replace HPT := Lib.hid (HPT.out.on hb)
        replace HMS := Lib.hid (HMS.out.up hb)
        replace HVv := Lib.hid (HVv.out.up hb)
        replace HMY := Lib.hid (HMY.out.up hb)
        replace HK := Lib.hid (HK.out.on hb)
        replace HB := Lib.hid (HB.out.trans (hb.mono HB.out.size))
        replace HK := Lib.hid (Blks.cons hX HK.out)
        clear hX hb hz
        generalize z6.heap.size = g13 at *)
      go_wp2_with (first
        | (refine isLda 46 3 rfl ?_; refine load_blk (by rfl) 46 (.tmp 3) rfl w.heap.size rfl (Blks.hd (Blks.tl (Blks.tl (Blks.tl (Blks.tl HK.out))))) _ Tryz.underlying46 rfl (by kernel_rfl) ?_)
        | (refine isLda 46 13 rfl ?_; refine load_blk (by rfl) 46 (.tmp 13) rfl g13 rfl (Blks.hd HK.out) _ Tryz.underlying46 rfl (by kernel_rfl) ?_))
      refine (HSE.out z7 _ _ _ _ HMS.out HMY.out.any).mono ?_
      rintro e z8 ⟨rfl, hb⟩
      replace HVi := Lib.hid (HVi.out.up hb)
      replace HVp := Lib.hid (HVp.out.up hb)
      replace HVr := Lib.hid (HVr.out.up hb)
      replace HVt := Lib.hid (HVt.out.up hb)
      replace HM := Lib.hid (HM.out.on hb)
      replace HPT := Lib.hid (HPT.out.on hb)
      replace HMS := Lib.hid (HMS.out.up hb)
      replace HVv := Lib.hid (HVv.out.up hb)
      replace HMY := Lib.hid (HMY.out.up hb)
      replace HK := Lib.hid (HK.out.on hb)
      replace HB := Lib.hid (HB.out.trans (hb.mono HB.out.size))
      clear hb HMY
      go_wp2_with fail
      refine (awake12_any z8 HM.out).mono ?_
      rintro e z9 ⟨rfl, hb⟩
      replace HVi := Lib.hid (HVi.out.up hb)
      replace HVp := Lib.hid (HVp.out.up hb)
      replace HVr := Lib.hid (HVr.out.up hb)
      replace HVt := Lib.hid (HVt.out.up hb)
      replace HM := Lib.hid (HM.out.on hb)
      replace HPT := Lib.hid (HPT.out.on hb)
      replace HMS := Lib.hid (HMS.out.up hb)
      replace HVv := Lib.hid (HVv.out.up hb)
      replace HK := Lib.hid (HK.out.on hb)
      replace HB := Lib.hid (HB.out.trans (hb.mono HB.out.size))
      clear hb
      go_wp2
      go_ret
      exact ⟨rfl, HB.out⟩
end Go.Proofs.YtfploakafbnigaaGreatDoor
