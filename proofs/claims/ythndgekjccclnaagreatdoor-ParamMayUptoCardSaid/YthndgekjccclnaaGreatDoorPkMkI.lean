/-
  Joined texts: MkRefPub.
-/
import Derived.Test.YthndgekjccclnaaGreatDoorPkMkH
namespace Go.Proofs.YthndgekjccclnaaGreatDoor
open Go.RowKit Val Num Go.Proofs.YthndgekjccclnaaGreatDoorW.PrintLast
set_option linter.unusedVariables false
set_option linter.unusedSimpArgs false
def tl_rPubL (z : Zone) (x1 x2 x3 x4 x5 : Int) (tx : ByteArray) (w : World) (g5 : Nat) (ov : Value) : Tolds := [(0, 23, fun _ v => v = .pointer (some ⟨w.heap.size + 1, 3, none⟩)), (1, 24, fun _ v => v = ov), (2, 25, TSV z [⟨#[114, 97, 110, 103, 101]⟩, ⟨#[115, 101, 118, 101, 114, 105, 116, 121]⟩, ⟨#[99, 111, 100, 101]⟩, ⟨#[115, 111, 117, 114, 99, 101]⟩, ⟨#[109, 101, 115, 115, 97, 103, 101]⟩]), (3, 26, fun _ v => v = .pointer (some ⟨g5, 0, none⟩)), (4, 27, fun _ v => v = .agg #[.int .i64 x1, .int .i64 x2, .int .i64 x3, .int .i64 x4]), (5, 28, VLV z (rangeT x1 x2 x3 x4)), (6, 29, VLV z (nbT 1)), (7, 30, fun _ v => v = .pointer (some ⟨g5, 4, none⟩)), (8, 31, fun _ v => v = .int .i64 x5), (9, 32, VLV z (nbT x5)), (10, 33, VLV z (txT ⟨#[99, 111, 108, 111, 112, 104, 111, 110]⟩)), (11, 34, fun _ v => v = .pointer (some ⟨g5, 5, none⟩)), (12, 35, fun _ v => v = .string tx), (13, 36, VLV z (txT tx)), (14, 37, VSV z [(rangeT x1 x2 x3 x4), (nbT 1), (nbT x5), (txT ⟨#[99, 111, 108, 111, 112, 104, 111, 110]⟩), (txT tx)]), (15, 38, VLV z (obT [⟨#[114, 97, 110, 103, 101]⟩, ⟨#[115, 101, 118, 101, 114, 105, 116, 121]⟩, ⟨#[99, 111, 100, 101]⟩, ⟨#[115, 111, 117, 114, 99, 101]⟩, ⟨#[109, 101, 115, 115, 97, 103, 101]⟩] [(rangeT x1 x2 x3 x4), (nbT 1), (nbT x5), (txT ⟨#[99, 111, 108, 111, 112, 104, 111, 110]⟩), (txT tx)])), (16, 39, VSV z [(obT [⟨#[114, 97, 110, 103, 101]⟩, ⟨#[115, 101, 118, 101, 114, 105, 116, 121]⟩, ⟨#[99, 111, 100, 101]⟩, ⟨#[115, 111, 117, 114, 99, 101]⟩, ⟨#[109, 101, 115, 115, 97, 103, 101]⟩] [(rangeT x1 x2 x3 x4), (nbT 1), (nbT x5), (txT ⟨#[99, 111, 108, 111, 112, 104, 111, 110]⟩), (txT tx)])])]
theorem tl_rPubL_ok (z : Zone) (x1 x2 x3 x4 x5 : Int) (tx : ByteArray) (w : World) (g5 : Nat) (ov : Value) : (tl_rPubL z x1 x2 x3 x4 x5 tx w g5 ov).ok 17 = true := by kernel_rfl
theorem tl_rPubL_up (z : Zone) (x1 x2 x3 x4 x5 : Int) (tx : ByteArray) (w : World) (g5 : Nat) (ov : Value) : (tl_rPubL z x1 x2 x3 x4 x5 tx w g5 ov).up := (tup_cons (fun _ _ _ h _ => h) (tup_cons (fun _ _ _ h _ => h) (tup_cons (fun _ _ _ h hb => TSV.up h hb) (tup_cons (fun _ _ _ h _ => h) (tup_cons (fun _ _ _ h _ => h) (tup_cons (fun _ _ _ h hb => VLV.up h hb) (tup_cons (fun _ _ _ h hb => VLV.up h hb) (tup_cons (fun _ _ _ h _ => h) (tup_cons (fun _ _ _ h _ => h) (tup_cons (fun _ _ _ h hb => VLV.up h hb) (tup_cons (fun _ _ _ h hb => VLV.up h hb) (tup_cons (fun _ _ _ h _ => h) (tup_cons (fun _ _ _ h _ => h) (tup_cons (fun _ _ _ h hb => VLV.up h hb) (tup_cons (fun _ _ _ h hb => VSV.up h hb) (tup_cons (fun _ _ _ h hb => VLV.up h hb) (tup_cons (fun _ _ _ h hb => VSV.up h hb) tup_nil)))))))))))))))))
def tl_rPubY (z : Zone) (uri : ByteArray) (ver : Int) (l : List Dg) (w : World) : Tolds := [(0, 43, TSV z [⟨#[117, 114, 105]⟩, ⟨#[118, 101, 114, 115, 105, 111, 110]⟩, ⟨#[100, 105, 97, 103, 110, 111, 115, 116, 105, 99, 115]⟩]), (1, 44, fun _ v => v = .string uri), (2, 45, VLV z (txT uri)), (3, 46, fun _ v => v = .int .i64 ver), (4, 47, VLV z (nbT ver)), (5, 48, VLV z (lsT (l.map Dg.tree))), (6, 49, VSV z [(txT uri), (nbT ver), (lsT (l.map Dg.tree))]), (7, 50, VLV z (obT [⟨#[117, 114, 105]⟩, ⟨#[118, 101, 114, 115, 105, 111, 110]⟩, ⟨#[100, 105, 97, 103, 110, 111, 115, 116, 105, 99, 115]⟩] [(txT uri), (nbT ver), (lsT (l.map Dg.tree))]))]
theorem tl_rPubY_ok (z : Zone) (uri : ByteArray) (ver : Int) (l : List Dg) (w : World) : (tl_rPubY z uri ver l w).ok 8 = true := by kernel_rfl
theorem tl_rPubY_up (z : Zone) (uri : ByteArray) (ver : Int) (l : List Dg) (w : World) : (tl_rPubY z uri ver l w).up := (tup_cons (fun _ _ _ h hb => TSV.up h hb) (tup_cons (fun _ _ _ h _ => h) (tup_cons (fun _ _ _ h hb => VLV.up h hb) (tup_cons (fun _ _ _ h _ => h) (tup_cons (fun _ _ _ h hb => VLV.up h hb) (tup_cons (fun _ _ _ h hb => VLV.up h hb) (tup_cons (fun _ _ _ h hb => VSV.up h hb) (tup_cons (fun _ _ _ h hb => VLV.up h hb) tup_nil))))))))
def tl_rPubN (z : Zone) (uri : ByteArray) (ver : Int) (l : List Dg) (w : World) : Tolds := [(0, 51, TSV z [⟨#[117, 114, 105]⟩, ⟨#[100, 105, 97, 103, 110, 111, 115, 116, 105, 99, 115]⟩]), (1, 52, fun _ v => v = .string uri), (2, 53, VLV z (txT uri)), (3, 54, VLV z (lsT (l.map Dg.tree))), (4, 55, VSV z [(txT uri), (lsT (l.map Dg.tree))]), (5, 56, VLV z (obT [⟨#[117, 114, 105]⟩, ⟨#[100, 105, 97, 103, 110, 111, 115, 116, 105, 99, 115]⟩] [(txT uri), (lsT (l.map Dg.tree))]))]
theorem tl_rPubN_ok (z : Zone) (uri : ByteArray) (ver : Int) (l : List Dg) (w : World) : (tl_rPubN z uri ver l w).ok 6 = true := by kernel_rfl
theorem tl_rPubN_up (z : Zone) (uri : ByteArray) (ver : Int) (l : List Dg) (w : World) : (tl_rPubN z uri ver l w).up := (tup_cons (fun _ _ _ h hb => TSV.up h hb) (tup_cons (fun _ _ _ h _ => h) (tup_cons (fun _ _ _ h hb => VLV.up h hb) (tup_cons (fun _ _ _ h hb => VLV.up h hb) (tup_cons (fun _ _ _ h hb => VSV.up h hb) (tup_cons (fun _ _ _ h hb => VLV.up h hb) tup_nil))))))
set_option maxRecDepth 100000 in
set_option maxHeartbeats 8000000 in
theorem rPublish (uri : ByteArray) (ver : Int) (has : Bool) (l : List Dg) (w : World) (A : Option Addr) (cap : Nat) (hl : l.length ≤ 1048576) (he : ER 6 Dg.enc w (fun b => b < w.heap.size) A l) (iv : I64 ver) (ho : ∀ x ∈ l, Dg.ok x) (hsz : ∀ x ∈ l, x.s.size ≤ 1048576) (hbk : (pubT uri ver has (l.map Dg.tree)).bulk ≤ 1073741824) :
    Calls Tryz.prog 48 #[.string uri, .int .i64 ver, .bool has, .slice A l.length cap] w (Copied (pubT uri ver has (l.map Dg.tree)) w) := by
  have HE := Lib.hid he
  have HV := Lib.hid iv
  have Hho := Lib.hid ho
  have Hsz := Lib.hid hsz
  have HBK0 := Lib.hid hbk
  obtain ⟨n, hn⟩ : ∃ n, l.length = n := ⟨_, rfl⟩
  have HN := Lib.hid hn
  rw [hn] at hl
  rw [hn]
  clear he iv ho hn hsz hbk
  obtain ⟨i0, hi0, hz0, hz1, hz2⟩ := info_parts Tryz.infoV
  have HI0 := Lib.hid hi0
  have HZ0 := Lib.hid hz0
  have HZ1 := Lib.hid hz1
  have HZ2 := Lib.hid hz2
  clear hi0 hz0 hz1 hz2
  have HAT : Hid (ALat w (w.heap.size + 2) w.heap.size (w.heap.size + 1)) := Lib.hid ⟨by omega, by omega, by omega, by omega, by omega⟩
  go_enter Tryz.func48, Tryz.ntmps48
  go_wp2_with fail
  go_loopg [10] n (fun q v wr => ∃ (p : Nat) (ov : Value) (xs : List Value), p + q = n ∧ v = .int .i64 p ∧ AL w (w.heap.size + 2) w.heap.size (w.heap.size + 1) (fun j => (l.map Dg.tree).getD j .leaf) p ov xs wr)
  case atStart => exact ⟨0, _, [], by omega, rfl, al2_0 w _ _, al2_1 w _ _, al2_below w _ _, World.ownsRow_nil _ _ _ _, VR.nil _ _ _, by simp⟩
  case round =>
    obtain ⟨p, ov, xs, hp, rfl, hM⟩ := hrel
    have HP := Lib.hid hp
    have HM := Lib.hid hM
    clear hp hM
    by_cases hlt : p < n
    · have hd0 : decide ((p : Int) < (n : Int)) = true := by simp; omega
      have hd1 : decide (p < n) = true := by simp; omega
      have hpl : p < l.length := by have := HN.out; omega
      rcases HE.out with h0 | ⟨b, off, rfl, hblt, hc⟩
      · subst h0; simp at hpl
      have hcc := hc p hpl
      have kk : ∀ o, wr.cell? ⟨b, o, none⟩ = w.cell? ⟨b, o, none⟩ := fun o => HM.out.below.cell (p := ⟨b, o, none⟩) hblt
      have i1 : (0 : Int) ≤ p := by omega
      have i2 : (p : Int) < n := by omega
      have HT : Hid ((fun j => (l.map Dg.tree).getD j .leaf) p = Dg.tree l[p]) := Lib.hid (by show (l.map Dg.tree).getD p .leaf = _; rw [List.getD_eq_getElem?_getD]; simp [hpl])
      have HOK := Lib.hid (Hho.out l[p] (List.getElem_mem hpl))
      have HSZ := Lib.hid (Hsz.out l[p] (List.getElem_mem hpl))
      generalize l[p] = x at *
      obtain ⟨x1, x2, x3, x4, x5, tx⟩ := x
      have k0 := (kk _).trans (hcc 0 _ rfl)
      have k1 := (kk _).trans (hcc 1 _ rfl)
      have k2 := (kk _).trans (hcc 2 _ rfl)
      have k3 := (kk _).trans (hcc 3 _ rfl)
      have k4 := (kk _).trans (hcc 4 _ rfl)
      have k5 := (kk _).trans (hcc 5 _ rfl)
      rw [Nat.add_zero] at k0
      clear kk hcc hc hlt hpl
      replace HSZ : Hid (tx.size ≤ 1048576) := HSZ
      replace HT : Hid ((fun j => (l.map Dg.tree).getD j .leaf) p = diagT x1 x2 x3 x4 x5 tx) := HT
      replace HOK : Hid (I64 x1 ∧ I64 x2 ∧ I64 x3 ∧ I64 x4 ∧ I64 x5) := HOK
      go_wp2_with fail
      have hba := (Below.refl wr.heap.size wr).alloc (Nat.le_refl _) (.cells #[.int .i64 x1, .int .i64 x2, .int .i64 x3, .int .i64 x4, .int .i64 x5, .string tx] 123)
      have HX : Hid (BK (wr.alloc (.cells #[.int .i64 x1, .int .i64 x2, .int .i64 x3, .int .i64 x4, .int .i64 x5, .string tx] 123)) wr.heap.size 123 #[.int .i64 x1, .int .i64 x2, .int .i64 x3, .int .i64 x4, .int .i64 x5, .string tx]) := Lib.hid (BK.new wr _ _)
      replace HM := Lib.hid (HM.out.on hba)
      clear hba k0 k1 k2 k3 k4 k5
      generalize (wr.alloc (.cells #[.int .i64 x1, .int .i64 x2, .int .i64 x3, .int .i64 x4, .int .i64 x5, .string tx] 123)) = w1 at *
      generalize wr.heap.size = g5 at *
      refine start_ (n := 20) (S := fun w' => True) (ds := []) #[false, false, false, false, false, false, false, false, false, false, false, false, false, false, false, false, false, false, false, false] (by kernel_rfl) rfl rfl trivial (fun hHeld => ?_)
      clear hHeld
      have hb : Below w1.heap.size w1 w1.drew := (Below.refl _ _).drew
      replace HM := Lib.hid (HM.out.on hb)
      replace HX := Lib.hid (HX.out.on hb)
      clear hb
      generalize w1.drew = c at *
      have HO := Lib.hid HM.out.out
      refine inv_ (B := [0, 1, 0, 0, 8, 24, 56, 0, 128, 504, 1016, 0, 2048, 8184, 16376, 32764, 65532, 131071, 262143, 524287]) [0, 1, 2, 3, 4, 5, 6, 7, 8, 9, 10, 11, 12, 13, 14, 15, 16, 17, 18, 19] (ToldA _ (AppG w (w.heap.size + 2) (w.heap.size) (w.heap.size + 1) (fun j => (l.map Dg.tree).getD j .leaf) p ov) (tl_rPubL (zNew c.heap.size) x1 x2 x3 x4 x5 tx w g5 ov) 17 40 18 41 (.pointer (some ⟨w.heap.size + 1, 3, none⟩)) 19 c _) rfl (by kernel_rfl) (by kernel_rfl) (by kernel_rfl) toldG_begin ?_ (after_end (by kernel_rfl) (by kernel_rfl))
      refine steps_cons (toldG_step 0 (tl_rPubL_ok (zNew c.heap.size) x1 x2 x3 x4 x5 tx w g5 ov) (tl_rPubL_up (zNew c.heap.size) x1 x2 x3 x4 x5 tx w g5 ov) rfl (by kernel_rfl) ?_) ?_
      · intro b V a w' ha hB hF hon
        refine ⟨_, rfl, rfl, fun K hK => ?_⟩
        have e9 : a.tmps[9]? = some (.pointer (some ⟨w.heap.size + 1, 0, none⟩)) := by rw [ha]; exact (putSel_off (by rfl)).trans rfl
        refine value_ (w1 := w') (v := .pointer (some ⟨w.heap.size + 1, 3, none⟩)) rfl rfl ?_ (hK _ _ (Below.refl _ _) rfl)
        clear ha hF hon hK K
        go_simp
        all_goals first | rfl | (constructor <;> rfl)
      refine steps_cons (toldG_step 1 (tl_rPubL_ok (zNew c.heap.size) x1 x2 x3 x4 x5 tx w g5 ov) (tl_rPubL_up (zNew c.heap.size) x1 x2 x3 x4 x5 tx w g5 ov) rfl (by kernel_rfl) ?_) ?_
      · intro b V a w' ha hB hF hon
        refine ⟨_, rfl, rfl, fun K hK => ?_⟩
        have e23 := told_get 0 (tl_rPubL_ok (zNew c.heap.size) x1 x2 x3 x4 x5 tx w g5 ov) rfl ha (hon 0 (by kernel_rfl)) (by kernel_rfl)
        have F23 : V 0 = .pointer (some ⟨w.heap.size + 1, 3, none⟩) := told_fact 0 hF rfl (hon 0 (by kernel_rfl))
        rw [F23] at e23
        have hg := HO.out.on hB
        have y3 := hg.c3
        clear hg
        refine value_ (w1 := w') (v := ov) rfl rfl ?_ (hK _ _ (Below.refl _ _) rfl)
        clear ha hF hon hK K
        go_simp
        all_goals first | rfl | (constructor <;> rfl)
      refine steps_cons (toldG_step 2 (tl_rPubL_ok (zNew c.heap.size) x1 x2 x3 x4 x5 tx w g5 ov) (tl_rPubL_up (zNew c.heap.size) x1 x2 x3 x4 x5 tx w g5 ov) rfl (by kernel_rfl) ?_) ?_
      · intro b V a w' ha hB hF hon
        refine ⟨_, rfl, rfl, fun K hK => ?_⟩
        refine value_ (w1 := w'.alloc (.cells #[.string ⟨#[114, 97, 110, 103, 101]⟩, .string ⟨#[115, 101, 118, 101, 114, 105, 116, 121]⟩, .string ⟨#[99, 111, 100, 101]⟩, .string ⟨#[115, 111, 117, 114, 99, 101]⟩, .string ⟨#[109, 101, 115, 115, 97, 103, 101]⟩] 9)) (v := .slice (some ⟨w'.heap.size, 0, none⟩) 5 5) rfl rfl ?_ (hK _ _ ((Below.refl _ _).alloc (Nat.le_refl _) _) (TSV_new _ _ _ _ _ rfl (zNew_alloc hB.size)))
        clear ha hF hon hK K
        go_simp
        all_goals first | rfl | (constructor <;> rfl)
      refine steps_cons (toldG_step 3 (tl_rPubL_ok (zNew c.heap.size) x1 x2 x3 x4 x5 tx w g5 ov) (tl_rPubL_up (zNew c.heap.size) x1 x2 x3 x4 x5 tx w g5 ov) rfl (by kernel_rfl) ?_) ?_
      · intro b V a w' ha hB hF hon
        refine ⟨_, rfl, rfl, fun K hK => ?_⟩
        have e11 : a.tmps[11]? = some (.pointer (some ⟨g5, 0, none⟩)) := by rw [ha]; exact (putSel_off (by rfl)).trans rfl
        refine value_ (w1 := w') (v := .pointer (some ⟨g5, 0, none⟩)) rfl rfl ?_ (hK _ _ (Below.refl _ _) rfl)
        clear ha hF hon hK K
        go_simp
        all_goals first | rfl | (constructor <;> rfl)
      refine steps_cons (toldG_step 4 (tl_rPubL_ok (zNew c.heap.size) x1 x2 x3 x4 x5 tx w g5 ov) (tl_rPubL_up (zNew c.heap.size) x1 x2 x3 x4 x5 tx w g5 ov) rfl (by kernel_rfl) ?_) ?_
      · intro b V a w' ha hB hF hon
        refine ⟨_, rfl, rfl, fun K hK => ?_⟩
        have e26 := told_get 3 (tl_rPubL_ok (zNew c.heap.size) x1 x2 x3 x4 x5 tx w g5 ov) rfl ha (hon 3 (by kernel_rfl)) (by kernel_rfl)
        have F26 : V 3 = .pointer (some ⟨g5, 0, none⟩) := told_fact 3 hF rfl (hon 3 (by kernel_rfl))
        rw [F26] at e26
        have hg := HX.out.on hB
        have y0 := hg.c 0 rfl
        have y1 := hg.c 1 rfl
        have y2 := hg.c 2 rfl
        have y3 := hg.c 3 rfl
        clear hg
        refine value_ (w1 := w') (v := .agg #[.int .i64 x1, .int .i64 x2, .int .i64 x3, .int .i64 x4]) rfl rfl ?_ (hK _ _ (Below.refl _ _) rfl)
        clear ha hF hon hK K
        go_simp
        all_goals first | rfl | (constructor <;> rfl)
      refine steps_cons (toldG_step 5 (tl_rPubL_ok (zNew c.heap.size) x1 x2 x3 x4 x5 tx w g5 ov) (tl_rPubL_up (zNew c.heap.size) x1 x2 x3 x4 x5 tx w g5 ov) rfl (by kernel_rfl) ?_) ?_
      · intro b V a w' ha hB hF hon
        refine ⟨_, rfl, rfl, fun K hK => ?_⟩
        have e27 := told_get 4 (tl_rPubL_ok (zNew c.heap.size) x1 x2 x3 x4 x5 tx w g5 ov) rfl ha (hon 4 (by kernel_rfl)) (by kernel_rfl)
        have F27 : V 4 = .agg #[.int .i64 x1, .int .i64 x2, .int .i64 x3, .int .i64 x4] := told_fact 4 hF rfl (hon 4 (by kernel_rfl))
        rw [F27] at e27
        refine goes_ Tryz.func44 (by kernel_rfl) rfl #[.agg #[.int .i64 x1, .int .i64 x2, .int .i64 x3, .int .i64 x4]] rfl rfl rfl (by simp only [List.map_toArray, List.map_cons, List.map_nil, Act.eval, Array.getD_eq_getD_getElem?, e27, Option.getD_some]) ?_
        refine ((rRange x1 x2 x3 x4 w' HOK.out.1 HOK.out.2.1 HOK.out.2.2.1 HOK.out.2.2.2.1).mono (fun _ _ h => h.mk hB.size)).mono ?_
        rintro e w'' ⟨v, rfl, hv, hb⟩
        exact ⟨v, rfl, hK v w'' hb hv⟩
      refine steps_cons (toldG_step 6 (tl_rPubL_ok (zNew c.heap.size) x1 x2 x3 x4 x5 tx w g5 ov) (tl_rPubL_up (zNew c.heap.size) x1 x2 x3 x4 x5 tx w g5 ov) rfl (by kernel_rfl) ?_) ?_
      · intro b V a w' ha hB hF hon
        refine ⟨_, rfl, rfl, fun K hK => ?_⟩
        refine goes_ Tryz.func86 (by kernel_rfl) rfl #[.int .i64 1] rfl rfl rfl (by simp only [List.map_toArray, List.map_cons, List.map_nil, Act.eval, Array.getD_eq_getD_getElem?, Option.getD_some]) ?_
        refine ((rNum 1 w' (by unfold I64; omega)).mono (fun _ _ h => h.mk hB.size)).mono ?_
        rintro e w'' ⟨v, rfl, hv, hb⟩
        exact ⟨v, rfl, hK v w'' hb hv⟩
      refine steps_cons (toldG_step 7 (tl_rPubL_ok (zNew c.heap.size) x1 x2 x3 x4 x5 tx w g5 ov) (tl_rPubL_up (zNew c.heap.size) x1 x2 x3 x4 x5 tx w g5 ov) rfl (by kernel_rfl) ?_) ?_
      · intro b V a w' ha hB hF hon
        refine ⟨_, rfl, rfl, fun K hK => ?_⟩
        have e11 : a.tmps[11]? = some (.pointer (some ⟨g5, 0, none⟩)) := by rw [ha]; exact (putSel_off (by rfl)).trans rfl
        refine value_ (w1 := w') (v := .pointer (some ⟨g5, 4, none⟩)) rfl rfl ?_ (hK _ _ (Below.refl _ _) rfl)
        clear ha hF hon hK K
        go_simp
        all_goals first | rfl | (constructor <;> rfl)
      refine steps_cons (toldG_step 8 (tl_rPubL_ok (zNew c.heap.size) x1 x2 x3 x4 x5 tx w g5 ov) (tl_rPubL_up (zNew c.heap.size) x1 x2 x3 x4 x5 tx w g5 ov) rfl (by kernel_rfl) ?_) ?_
      · intro b V a w' ha hB hF hon
        refine ⟨_, rfl, rfl, fun K hK => ?_⟩
        have e30 := told_get 7 (tl_rPubL_ok (zNew c.heap.size) x1 x2 x3 x4 x5 tx w g5 ov) rfl ha (hon 7 (by kernel_rfl)) (by kernel_rfl)
        have F30 : V 7 = .pointer (some ⟨g5, 4, none⟩) := told_fact 7 hF rfl (hon 7 (by kernel_rfl))
        rw [F30] at e30
        have hg := HX.out.on hB
        have y4 := hg.c 4 rfl
        clear hg
        refine value_ (w1 := w') (v := .int .i64 x5) rfl rfl ?_ (hK _ _ (Below.refl _ _) rfl)
        clear ha hF hon hK K
        go_simp
        all_goals first | rfl | (constructor <;> rfl)
      refine steps_cons (toldG_step 9 (tl_rPubL_ok (zNew c.heap.size) x1 x2 x3 x4 x5 tx w g5 ov) (tl_rPubL_up (zNew c.heap.size) x1 x2 x3 x4 x5 tx w g5 ov) rfl (by kernel_rfl) ?_) ?_
      · intro b V a w' ha hB hF hon
        refine ⟨_, rfl, rfl, fun K hK => ?_⟩
        have e31 := told_get 8 (tl_rPubL_ok (zNew c.heap.size) x1 x2 x3 x4 x5 tx w g5 ov) rfl ha (hon 8 (by kernel_rfl)) (by kernel_rfl)
        have F31 : V 8 = .int .i64 x5 := told_fact 8 hF rfl (hon 8 (by kernel_rfl))
        rw [F31] at e31
        refine goes_ Tryz.func86 (by kernel_rfl) rfl #[.int .i64 x5] rfl rfl rfl (by simp only [List.map_toArray, List.map_cons, List.map_nil, Act.eval, Array.getD_eq_getD_getElem?, e31, Option.getD_some]) ?_
        refine ((rNum x5 w' HOK.out.2.2.2.2).mono (fun _ _ h => h.mk hB.size)).mono ?_
        rintro e w'' ⟨v, rfl, hv, hb⟩
        exact ⟨v, rfl, hK v w'' hb hv⟩
      refine steps_cons (toldG_step 10 (tl_rPubL_ok (zNew c.heap.size) x1 x2 x3 x4 x5 tx w g5 ov) (tl_rPubL_up (zNew c.heap.size) x1 x2 x3 x4 x5 tx w g5 ov) rfl (by kernel_rfl) ?_) ?_
      · intro b V a w' ha hB hF hon
        refine ⟨_, rfl, rfl, fun K hK => ?_⟩
        refine goes_ Tryz.func85 (by kernel_rfl) rfl #[.string ⟨#[99, 111, 108, 111, 112, 104, 111, 110]⟩] rfl rfl rfl (by simp only [List.map_toArray, List.map_cons, List.map_nil, Act.eval, Array.getD_eq_getD_getElem?, Option.getD_some]) ?_
        refine ((rStr ⟨#[99, 111, 108, 111, 112, 104, 111, 110]⟩ w').mono (fun _ _ h => h.mk hB.size)).mono ?_
        rintro e w'' ⟨v, rfl, hv, hb⟩
        exact ⟨v, rfl, hK v w'' hb hv⟩
      refine steps_cons (toldG_step 11 (tl_rPubL_ok (zNew c.heap.size) x1 x2 x3 x4 x5 tx w g5 ov) (tl_rPubL_up (zNew c.heap.size) x1 x2 x3 x4 x5 tx w g5 ov) rfl (by kernel_rfl) ?_) ?_
      · intro b V a w' ha hB hF hon
        refine ⟨_, rfl, rfl, fun K hK => ?_⟩
        have e11 : a.tmps[11]? = some (.pointer (some ⟨g5, 0, none⟩)) := by rw [ha]; exact (putSel_off (by rfl)).trans rfl
        refine value_ (w1 := w') (v := .pointer (some ⟨g5, 5, none⟩)) rfl rfl ?_ (hK _ _ (Below.refl _ _) rfl)
        clear ha hF hon hK K
        go_simp
        all_goals first | rfl | (constructor <;> rfl)
      refine steps_cons (toldG_step 12 (tl_rPubL_ok (zNew c.heap.size) x1 x2 x3 x4 x5 tx w g5 ov) (tl_rPubL_up (zNew c.heap.size) x1 x2 x3 x4 x5 tx w g5 ov) rfl (by kernel_rfl) ?_) ?_
      · intro b V a w' ha hB hF hon
        refine ⟨_, rfl, rfl, fun K hK => ?_⟩
        have e34 := told_get 11 (tl_rPubL_ok (zNew c.heap.size) x1 x2 x3 x4 x5 tx w g5 ov) rfl ha (hon 11 (by kernel_rfl)) (by kernel_rfl)
        have F34 : V 11 = .pointer (some ⟨g5, 5, none⟩) := told_fact 11 hF rfl (hon 11 (by kernel_rfl))
        rw [F34] at e34
        have hg := HX.out.on hB
        have y5 := hg.c 5 rfl
        clear hg
        refine value_ (w1 := w') (v := .string tx) rfl rfl ?_ (hK _ _ (Below.refl _ _) rfl)
        clear ha hF hon hK K
        go_simp
        all_goals first | rfl | (constructor <;> rfl)
      refine steps_cons (toldG_step 13 (tl_rPubL_ok (zNew c.heap.size) x1 x2 x3 x4 x5 tx w g5 ov) (tl_rPubL_up (zNew c.heap.size) x1 x2 x3 x4 x5 tx w g5 ov) rfl (by kernel_rfl) ?_) ?_
      · intro b V a w' ha hB hF hon
        refine ⟨_, rfl, rfl, fun K hK => ?_⟩
        have e35 := told_get 12 (tl_rPubL_ok (zNew c.heap.size) x1 x2 x3 x4 x5 tx w g5 ov) rfl ha (hon 12 (by kernel_rfl)) (by kernel_rfl)
        have F35 : V 12 = .string tx := told_fact 12 hF rfl (hon 12 (by kernel_rfl))
        rw [F35] at e35
        refine goes_ Tryz.func85 (by kernel_rfl) rfl #[.string tx] rfl rfl rfl (by simp only [List.map_toArray, List.map_cons, List.map_nil, Act.eval, Array.getD_eq_getD_getElem?, e35, Option.getD_some]) ?_
        refine ((rStr tx w').mono (fun _ _ h => h.mk hB.size)).mono ?_
        rintro e w'' ⟨v, rfl, hv, hb⟩
        exact ⟨v, rfl, hK v w'' hb hv⟩
      refine steps_cons (toldG_step 14 (tl_rPubL_ok (zNew c.heap.size) x1 x2 x3 x4 x5 tx w g5 ov) (tl_rPubL_up (zNew c.heap.size) x1 x2 x3 x4 x5 tx w g5 ov) rfl (by kernel_rfl) ?_) ?_
      · intro b V a w' ha hB hF hon
        refine ⟨_, rfl, rfl, fun K hK => ?_⟩
        have e28 := told_get 5 (tl_rPubL_ok (zNew c.heap.size) x1 x2 x3 x4 x5 tx w g5 ov) rfl ha (hon 5 (by kernel_rfl)) (by kernel_rfl)
        have F28 := told_fact 5 hF rfl (hon 5 (by kernel_rfl))
        obtain ⟨k_28, i_28, x_28, A_28, n_28, c_28, B_28, m_28, d_28, hv28⟩ := VAL.shape F28
        rw [hv28] at e28 F28
        have e29 := told_get 6 (tl_rPubL_ok (zNew c.heap.size) x1 x2 x3 x4 x5 tx w g5 ov) rfl ha (hon 6 (by kernel_rfl)) (by kernel_rfl)
        have F29 := told_fact 6 hF rfl (hon 6 (by kernel_rfl))
        obtain ⟨k_29, i_29, x_29, A_29, n_29, c_29, B_29, m_29, d_29, hv29⟩ := VAL.shape F29
        rw [hv29] at e29 F29
        have e32 := told_get 9 (tl_rPubL_ok (zNew c.heap.size) x1 x2 x3 x4 x5 tx w g5 ov) rfl ha (hon 9 (by kernel_rfl)) (by kernel_rfl)
        have F32 := told_fact 9 hF rfl (hon 9 (by kernel_rfl))
        obtain ⟨k_32, i_32, x_32, A_32, n_32, c_32, B_32, m_32, d_32, hv32⟩ := VAL.shape F32
        rw [hv32] at e32 F32
        have e33 := told_get 10 (tl_rPubL_ok (zNew c.heap.size) x1 x2 x3 x4 x5 tx w g5 ov) rfl ha (hon 10 (by kernel_rfl)) (by kernel_rfl)
        have F33 := told_fact 10 hF rfl (hon 10 (by kernel_rfl))
        obtain ⟨k_33, i_33, x_33, A_33, n_33, c_33, B_33, m_33, d_33, hv33⟩ := VAL.shape F33
        rw [hv33] at e33 F33
        have e36 := told_get 13 (tl_rPubL_ok (zNew c.heap.size) x1 x2 x3 x4 x5 tx w g5 ov) rfl ha (hon 13 (by kernel_rfl)) (by kernel_rfl)
        have F36 := told_fact 13 hF rfl (hon 13 (by kernel_rfl))
        obtain ⟨k_36, i_36, x_36, A_36, n_36, c_36, B_36, m_36, d_36, hv36⟩ := VAL.shape F36
        rw [hv36] at e36 F36
        refine value_ (w1 := w'.alloc (.cells #[.int .i64 k_28, .bool i_28, .string x_28, .slice A_28 n_28 c_28, .slice B_28 m_28 d_28, .int .i64 k_29, .bool i_29, .string x_29, .slice A_29 n_29 c_29, .slice B_29 m_29 d_29, .int .i64 k_32, .bool i_32, .string x_32, .slice A_32 n_32 c_32, .slice B_32 m_32 d_32, .int .i64 k_33, .bool i_33, .string x_33, .slice A_33 n_33 c_33, .slice B_33 m_33 d_33, .int .i64 k_36, .bool i_36, .string x_36, .slice A_36 n_36 c_36, .slice B_36 m_36 d_36] 30)) (v := .slice (some ⟨w'.heap.size, 0, none⟩) 5 5) rfl rfl ?_ (hK _ _ ((Below.refl _ _).alloc (Nat.le_refl _) _) (VSV_new _ _ _ _ _ (VR.cons F28 (VR.cons F29 (VR.cons F32 (VR.cons F33 (VR.cons F36 (VR.none _ _)))))) (zNew_alloc hB.size)))
        clear ha hF hon hK K
        go_simp
        all_goals first | rfl | (constructor <;> rfl)
      refine steps_cons (toldG_step 15 (tl_rPubL_ok (zNew c.heap.size) x1 x2 x3 x4 x5 tx w g5 ov) (tl_rPubL_up (zNew c.heap.size) x1 x2 x3 x4 x5 tx w g5 ov) rfl (by kernel_rfl) ?_) ?_
      · intro b V a w' ha hB hF hon
        refine ⟨_, rfl, rfl, fun K hK => ?_⟩
        have e25 := told_get 2 (tl_rPubL_ok (zNew c.heap.size) x1 x2 x3 x4 x5 tx w g5 ov) rfl ha (hon 2 (by kernel_rfl)) (by kernel_rfl)
        have F25 := told_fact 2 hF rfl (hon 2 (by kernel_rfl))
        have e37 := told_get 14 (tl_rPubL_ok (zNew c.heap.size) x1 x2 x3 x4 x5 tx w g5 ov) rfl ha (hon 14 (by kernel_rfl)) (by kernel_rfl)
        have F37 := told_fact 14 hF rfl (hon 14 (by kernel_rfl))
        refine goes_ Tryz.func84 (by kernel_rfl) rfl #[V 2, V 14] rfl rfl rfl (by simp only [List.map_toArray, List.map_cons, List.map_nil, Act.eval, Array.getD_eq_getD_getElem?, e25, e37, Option.getD_some]) ?_
        refine ((rObject_any w' (zNew c.heap.size) _ _ F25 F37 rfl (Nat.le_trans (diagT_bulk x1 x2 x3 x4 x5 tx HOK.out.1 HOK.out.2.1 HOK.out.2.2.1 HOK.out.2.2.2.1 HOK.out.2.2.2.2) (by have := HSZ.out; omega))).mono (fun _ _ h => h.mk hB.size)).mono ?_
        rintro e w'' ⟨v, rfl, hv, hb⟩
        exact ⟨v, rfl, hK v w'' hb hv⟩
      refine steps_cons (toldG_step 16 (tl_rPubL_ok (zNew c.heap.size) x1 x2 x3 x4 x5 tx w g5 ov) (tl_rPubL_up (zNew c.heap.size) x1 x2 x3 x4 x5 tx w g5 ov) rfl (by kernel_rfl) ?_) ?_
      · intro b V a w' ha hB hF hon
        refine ⟨_, rfl, rfl, fun K hK => ?_⟩
        have e38 := told_get 15 (tl_rPubL_ok (zNew c.heap.size) x1 x2 x3 x4 x5 tx w g5 ov) rfl ha (hon 15 (by kernel_rfl)) (by kernel_rfl)
        have F38 := told_fact 15 hF rfl (hon 15 (by kernel_rfl))
        obtain ⟨k_38, i_38, x_38, A_38, n_38, c_38, B_38, m_38, d_38, hv38⟩ := VAL.shape F38
        rw [hv38] at e38 F38
        refine value_ (w1 := w'.alloc (.cells #[.int .i64 k_38, .bool i_38, .string x_38, .slice A_38 n_38 c_38, .slice B_38 m_38 d_38] 30)) (v := .slice (some ⟨w'.heap.size, 0, none⟩) 1 1) rfl rfl ?_ (hK _ _ ((Below.refl _ _).alloc (Nat.le_refl _) _) (VSV_new _ _ _ _ _ (VR.cons F38 (VR.none _ _)) (zNew_alloc hB.size)))
        clear ha hF hon hK K
        go_simp
        all_goals first | rfl | (constructor <;> rfl)
      refine steps_cons (after_app ?_ (by kernel_rfl) (by kernel_rfl) (by kernel_rfl) ?_) ?_
      · intro e he; simp only [tl_rPubL, List.mem_cons, List.mem_nil_iff, or_false] at he; rcases he with rfl | rfl | rfl | rfl | rfl | rfl | rfl | rfl | rfl | rfl | rfl | rfl | rfl | rfl | rfl | rfl | rfl <;> kernel_rfl
      · intro V a w' ha hB hF
        refine ⟨_, rfl, fun K hK => ?_⟩
        have e24 := told_get 1 (tl_rPubL_ok (zNew c.heap.size) x1 x2 x3 x4 x5 tx w g5 ov) rfl ha rfl (by kernel_rfl)
        have F24 : V 1 = ov := hF _ (List.mem_of_getElem? (i := 1) rfl)
        rw [F24] at e24
        have e39 := told_get 16 (tl_rPubL_ok (zNew c.heap.size) x1 x2 x3 x4 x5 tx w g5 ov) rfl ha rfl (by kernel_rfl)
        have F39 := hF _ (List.mem_of_getElem? (i := 16) rfl)
        obtain ⟨qb, qo, qc, v0, v1, v2, v3, v4, hvx, hqz, hc5, hvt⟩ := VSV.single F39
        rw [hvx] at e39
        have HMw := Lib.hid (HM.out.on hB)
        have HOw := Lib.hid (HO.out.on hB)
        refine step_append_lies _ rfl (.tmp 24) (.tmp 39) 28 rfl (w.heap.size + 2) 30 i0 _ 5 80 Tryz.underlying28 HI0.out HZ0.out HZ1.out HZ2.out rfl (by omega) ov p xs (by simp only [Act.eval, Array.getD_eq_getD_getElem?, e24, Option.getD_some]) HMw.out.own ⟨qb, qo, none⟩ 1 qc [v0, v1, v2, v3, v4] (by simp only [Act.eval, Array.getD_eq_getD_getElem?, e39, Option.getD_some]) rfl hc5.news hvt.one (by omega)
          (by unfold maxLen; omega) (by omega) HMw.out.size _ rfl ?_
        intro g ncap w5 hown hgrow hat hlt5
        have hv' : VAL w' (fun b => w.heap.size + 2 ≤ b ∧ b < w'.heap.size ∧ (ov).ownBlock ≠ some b) ((fun j => (l.map Dg.tree).getD j .leaf) p) (.agg #[v0, v1, v2, v3, v4]) := by
          refine Eq.mpr (congrArg (fun t => VAL w' _ t (.agg #[v0, v1, v2, v3, v4])) HT.out) ?_
          exact hvt.mono (fun b hb => ⟨Nat.le_trans HM.out.size hb.1, hb.2, fun e => by have := (HM.out.own.lt b e).2; have := hb.1; omega⟩)
        exact hK _ _ ⟨V, _, by rw [ha]; rfl, g, ncap, _, rfl, HMw.out.grown HAT.out hv' hown hgrow hat, HOw.out.same (hgrow.block _ HOw.out.lt (own_ne HMw.out.own HAT.out.d))⟩
      refine steps_cons (after_fa (by kernel_rfl) (by kernel_rfl) (by decide) (by decide) ?_) ?_
      · rintro a w' ⟨V, v, ha, hG⟩
        refine ⟨_, rfl, fun K hK => ?_⟩
        have e9 : a.tmps[9]? = some (.pointer (some ⟨w.heap.size + 1, 0, none⟩)) := by rw [ha, put_ne (by decide)]; exact (putSel_off (by rfl)).trans rfl
        refine value_ (w1 := w') (v := .pointer (some ⟨w.heap.size + 1, 3, none⟩)) rfl rfl ?_ (hK _ _ ⟨V, v, by rw [ha]; rfl, hG⟩)
        clear ha hG hK K
        go_simp
        all_goals first | rfl | (constructor <;> rfl)
      refine steps_cons (after_st (by kernel_rfl) (by kernel_rfl) (by decide) (by decide) ?_) steps_nil
      rintro a w' ⟨V, v, ha, g, ncap, xs', rfl, hM5, hO5⟩
      refine ⟨_, rfl, fun K hK => ?_⟩
      have e41 : a.tmps[41]? = some (.pointer (some ⟨w.heap.size + 1, 3, none⟩)) := by rw [ha]; exact put_at (by rw [put_size, (putSel_size _ _ _).1]; exact Nat.le_of_ble_eq_true rfl)
      have e40 : a.tmps[40]? = some (.slice (some ⟨g, 0, none⟩) (p + 1) ncap) := by rw [ha, put_ne (by decide)]; exact put_at (by rw [(putSel_size _ _ _).1]; exact Nat.le_of_ble_eq_true rfl)
      have f3 := hO5.fr 3
      have s3 := hO5.c3
      refine skip_ (w1 := w'.setCell ⟨w.heap.size + 1, 3, none⟩ (.slice (some ⟨g, 0, none⟩) (p + 1) ncap)) rfl rfl ?_ (hK _ _ ?_)
      · clear ha hM5 hK K
        go_simp
        all_goals first | rfl | (constructor <;> rfl)
      have HM5 := Lib.hid hM5
      clear hK K hM5 hO5 f3 s3 e40 e41
      generalize (w'.setCell ⟨w.heap.size + 1, 3, none⟩ (.slice (some ⟨g, 0, none⟩) (p + 1) ncap)) = w6 at *
      rw [ha]
      clear ha
      simp only [tl_rPubL, Tolds.put, List.map_cons, List.map_nil, putSel, if_true, Act.put, List.setIfInBounds_toArray, List.set_cons_zero, List.set_cons_succ]
      generalize V 0 = u0
      generalize V 1 = u1
      generalize V 2 = u2
      generalize V 3 = u3
      generalize V 4 = u4
      generalize V 5 = u5
      generalize V 6 = u6
      generalize V 7 = u7
      generalize V 8 = u8
      generalize V 9 = u9
      generalize V 10 = u10
      generalize V 11 = u11
      generalize V 12 = u12
      generalize V 13 = u13
      generalize V 14 = u14
      generalize V 15 = u15
      generalize V 16 = u16
      try clear V
      go_wp2
      go_roundg (gk - 1)
      case measure => have := HP.out; omega
      case rel => exact ⟨p + 1, _, _, by have := HP.out; omega, by go_num, HM5.out⟩
    · have hd1 : decide (p < n) = false := by simp; omega
      have hd2 : decide ((p : Int) < (n : Int)) = false := by simp; omega
      have hpn : p = n := by have := HP.out; omega
      subst hpn
      obtain ⟨OA, ocap, hov, hVV⟩ := HM.out.val
      subst hov
      have HVV := Lib.hid hVV
      have HLM : Hid ((l.map Dg.tree).length = p) := Lib.hid (by rw [List.length_map]; exact HN.out)
      have HB := Lib.hid HM.out.below
      have HO := Lib.hid HM.out.out
      have HR := Lib.hid HM.out.res
      have HQ := Lib.hid HM.out.size
      clear hVV hlt HM
      cases has
      rotate_left
      · skip
        have HBK := HBK0
        clear HBK0
        go_wp2_with fail
        refine start_ (n := 9) (S := fun w' => True) (ds := []) #[false, false, false, false, false, false, false, false, false] (by kernel_rfl) rfl rfl trivial (fun hHeld => ?_)
        clear hHeld
        have hb : Below wr.heap.size wr wr.drew := (Below.refl _ _).drew
        replace HVV := Lib.hid (VAL.on HVV.out (fun b hb => hb.2) hb)
        replace HVV : Hid (VLV (zNew (w.heap.size + 2)) (lsT (l.map Dg.tree)) wr.drew (.agg #[.int .i64 4, .bool false, .string ⟨#[]⟩, .slice OA p ocap, .slice none 0 0])) := Lib.hid (by
          have := HVV.out
          rw [← HLM.out] at this
          rw [← HLM.out]
          exact VAL.mono (fun b hb => hb) this)
        replace HB := Lib.hid (HB.out.trans (hb.mono HB.out.size))
        replace HO := Lib.hid (HO.out.on hb)
        replace HR := Lib.hid (HR.out.on hb)
        replace HQ := Lib.hid (Nat.le_trans HQ.out hb.size)
        clear hb
        generalize wr.drew = c at *
        refine inv_ (B := [0, 0, 2, 0, 14, 0, 62, 127, 255]) [0, 1, 2, 3, 4, 5, 6, 7, 8] (ToldI _ (tl_rPubY (zNew (w.heap.size + 2)) uri ver l w) 8 c _) rfl (by kernel_rfl) (by kernel_rfl) (by kernel_rfl) told_begin ?_ (told_end (by kernel_rfl))
        refine steps_cons (told_step 0 (tl_rPubY_ok (zNew (w.heap.size + 2)) uri ver l w) (tl_rPubY_up (zNew (w.heap.size + 2)) uri ver l w) rfl (by kernel_rfl) ?_) ?_
        · intro b V a w' ha hB hF hon
          refine ⟨_, rfl, rfl, fun K hK => ?_⟩
          refine value_ (w1 := w'.alloc (.cells #[.string ⟨#[117, 114, 105]⟩, .string ⟨#[118, 101, 114, 115, 105, 111, 110]⟩, .string ⟨#[100, 105, 97, 103, 110, 111, 115, 116, 105, 99, 115]⟩] 9)) (v := .slice (some ⟨w'.heap.size, 0, none⟩) 3 3) rfl rfl ?_ (hK _ _ ((Below.refl _ _).alloc (Nat.le_refl _) _) (TSV_new _ _ _ _ _ rfl (zNew_alloc (Nat.le_trans HQ.out hB.size))))
          clear ha hF hon hK K
          go_simp
          all_goals first | rfl | (constructor <;> rfl)
        refine steps_cons (told_step 1 (tl_rPubY_ok (zNew (w.heap.size + 2)) uri ver l w) (tl_rPubY_up (zNew (w.heap.size + 2)) uri ver l w) rfl (by kernel_rfl) ?_) ?_
        · intro b V a w' ha hB hF hon
          refine ⟨_, rfl, rfl, fun K hK => ?_⟩
          have e0 : a.tmps[0]? = some (.string uri) := by rw [ha]; exact (putSel_off (by rfl)).trans rfl
          refine value_ (w1 := w') (v := .string uri) rfl rfl ?_ (hK _ _ (Below.refl _ _) rfl)
          clear ha hF hon hK K
          go_simp
          all_goals first | rfl | (constructor <;> rfl)
        refine steps_cons (told_step 2 (tl_rPubY_ok (zNew (w.heap.size + 2)) uri ver l w) (tl_rPubY_up (zNew (w.heap.size + 2)) uri ver l w) rfl (by kernel_rfl) ?_) ?_
        · intro b V a w' ha hB hF hon
          refine ⟨_, rfl, rfl, fun K hK => ?_⟩
          have e44 := told_get 1 (tl_rPubY_ok (zNew (w.heap.size + 2)) uri ver l w) rfl ha (hon 1 (by kernel_rfl)) (by kernel_rfl)
          have F44 : V 1 = .string uri := told_fact 1 hF rfl (hon 1 (by kernel_rfl))
          rw [F44] at e44
          refine goes_ Tryz.func85 (by kernel_rfl) rfl #[.string uri] rfl rfl rfl (by simp only [List.map_toArray, List.map_cons, List.map_nil, Act.eval, Array.getD_eq_getD_getElem?, e44, Option.getD_some]) ?_
          refine ((rStr uri w').mono (fun _ _ h => h.mk (Nat.le_trans HQ.out hB.size))).mono ?_
          rintro e w'' ⟨v, rfl, hv, hb⟩
          exact ⟨v, rfl, hK v w'' hb hv⟩
        refine steps_cons (told_step 3 (tl_rPubY_ok (zNew (w.heap.size + 2)) uri ver l w) (tl_rPubY_up (zNew (w.heap.size + 2)) uri ver l w) rfl (by kernel_rfl) ?_) ?_
        · intro b V a w' ha hB hF hon
          refine ⟨_, rfl, rfl, fun K hK => ?_⟩
          have e1 : a.tmps[1]? = some (.int .i64 ver) := by rw [ha]; exact (putSel_off (by rfl)).trans rfl
          refine value_ (w1 := w') (v := .int .i64 ver) rfl rfl ?_ (hK _ _ (Below.refl _ _) rfl)
          clear ha hF hon hK K
          go_simp
          all_goals first | rfl | (constructor <;> rfl)
        refine steps_cons (told_step 4 (tl_rPubY_ok (zNew (w.heap.size + 2)) uri ver l w) (tl_rPubY_up (zNew (w.heap.size + 2)) uri ver l w) rfl (by kernel_rfl) ?_) ?_
        · intro b V a w' ha hB hF hon
          refine ⟨_, rfl, rfl, fun K hK => ?_⟩
          have e46 := told_get 3 (tl_rPubY_ok (zNew (w.heap.size + 2)) uri ver l w) rfl ha (hon 3 (by kernel_rfl)) (by kernel_rfl)
          have F46 : V 3 = .int .i64 ver := told_fact 3 hF rfl (hon 3 (by kernel_rfl))
          rw [F46] at e46
          refine goes_ Tryz.func86 (by kernel_rfl) rfl #[.int .i64 ver] rfl rfl rfl (by simp only [List.map_toArray, List.map_cons, List.map_nil, Act.eval, Array.getD_eq_getD_getElem?, e46, Option.getD_some]) ?_
          refine ((rNum ver w' HV.out).mono (fun _ _ h => h.mk (Nat.le_trans HQ.out hB.size))).mono ?_
          rintro e w'' ⟨v, rfl, hv, hb⟩
          exact ⟨v, rfl, hK v w'' hb hv⟩
        refine steps_cons (told_step 5 (tl_rPubY_ok (zNew (w.heap.size + 2)) uri ver l w) (tl_rPubY_up (zNew (w.heap.size + 2)) uri ver l w) rfl (by kernel_rfl) ?_) ?_
        · intro b V a w' ha hB hF hon
          refine ⟨_, rfl, rfl, fun K hK => ?_⟩
          have e9 : a.tmps[9]? = some (.pointer (some ⟨w.heap.size + 1, 0, none⟩)) := by rw [ha]; exact (putSel_off (by rfl)).trans rfl
          have hg := HO.out.on hB
          have y0 := hg.c0
          have y1 := hg.c1
          have y2 := hg.c2
          have y3 := hg.c3
          have y4 := hg.c4
          clear hg
          refine value_ (w1 := w') (v := .agg #[.int .i64 4, .bool false, .string ⟨#[]⟩, .slice OA p ocap, .slice none 0 0]) rfl rfl ?_ (hK _ _ (Below.refl _ _) (VLV.up (z := (zNew (w.heap.size + 2))) HVV.out hB))
          clear ha hF hon hK K
          go_simp
          all_goals first | rfl | (constructor <;> rfl)
        refine steps_cons (told_step 6 (tl_rPubY_ok (zNew (w.heap.size + 2)) uri ver l w) (tl_rPubY_up (zNew (w.heap.size + 2)) uri ver l w) rfl (by kernel_rfl) ?_) ?_
        · intro b V a w' ha hB hF hon
          refine ⟨_, rfl, rfl, fun K hK => ?_⟩
          have e45 := told_get 2 (tl_rPubY_ok (zNew (w.heap.size + 2)) uri ver l w) rfl ha (hon 2 (by kernel_rfl)) (by kernel_rfl)
          have F45 := told_fact 2 hF rfl (hon 2 (by kernel_rfl))
          obtain ⟨k_45, i_45, x_45, A_45, n_45, c_45, B_45, m_45, d_45, hv45⟩ := VAL.shape F45
          rw [hv45] at e45 F45
          have e47 := told_get 4 (tl_rPubY_ok (zNew (w.heap.size + 2)) uri ver l w) rfl ha (hon 4 (by kernel_rfl)) (by kernel_rfl)
          have F47 := told_fact 4 hF rfl (hon 4 (by kernel_rfl))
          obtain ⟨k_47, i_47, x_47, A_47, n_47, c_47, B_47, m_47, d_47, hv47⟩ := VAL.shape F47
          rw [hv47] at e47 F47
          have e48 := told_get 5 (tl_rPubY_ok (zNew (w.heap.size + 2)) uri ver l w) rfl ha (hon 5 (by kernel_rfl)) (by kernel_rfl)
          have F48 := told_fact 5 hF rfl (hon 5 (by kernel_rfl))
          obtain ⟨k_48, i_48, x_48, A_48, n_48, c_48, B_48, m_48, d_48, hv48⟩ := VAL.shape F48
          rw [hv48] at e48 F48
          refine value_ (w1 := w'.alloc (.cells #[.int .i64 k_45, .bool i_45, .string x_45, .slice A_45 n_45 c_45, .slice B_45 m_45 d_45, .int .i64 k_47, .bool i_47, .string x_47, .slice A_47 n_47 c_47, .slice B_47 m_47 d_47, .int .i64 k_48, .bool i_48, .string x_48, .slice A_48 n_48 c_48, .slice B_48 m_48 d_48] 30)) (v := .slice (some ⟨w'.heap.size, 0, none⟩) 3 3) rfl rfl ?_ (hK _ _ ((Below.refl _ _).alloc (Nat.le_refl _) _) (VSV_new _ _ _ _ _ (VR.cons F45 (VR.cons F47 (VR.cons F48 (VR.none _ _)))) (zNew_alloc (Nat.le_trans HQ.out hB.size))))
          clear ha hF hon hK K
          go_simp
          all_goals first | rfl | (constructor <;> rfl)
        refine steps_cons (told_step 7 (tl_rPubY_ok (zNew (w.heap.size + 2)) uri ver l w) (tl_rPubY_up (zNew (w.heap.size + 2)) uri ver l w) rfl (by kernel_rfl) ?_) ?_
        · intro b V a w' ha hB hF hon
          refine ⟨_, rfl, rfl, fun K hK => ?_⟩
          have e43 := told_get 0 (tl_rPubY_ok (zNew (w.heap.size + 2)) uri ver l w) rfl ha (hon 0 (by kernel_rfl)) (by kernel_rfl)
          have F43 := told_fact 0 hF rfl (hon 0 (by kernel_rfl))
          have e49 := told_get 6 (tl_rPubY_ok (zNew (w.heap.size + 2)) uri ver l w) rfl ha (hon 6 (by kernel_rfl)) (by kernel_rfl)
          have F49 := told_fact 6 hF rfl (hon 6 (by kernel_rfl))
          refine goes_ Tryz.func84 (by kernel_rfl) rfl #[V 0, V 6] rfl rfl rfl (by simp only [List.map_toArray, List.map_cons, List.map_nil, Act.eval, Array.getD_eq_getD_getElem?, e43, e49, Option.getD_some]) ?_
          refine ((rObject_any w' (zNew (w.heap.size + 2)) _ _ F43 F49 rfl HBK.out).mono (fun _ _ h => h.mk (Nat.le_trans HQ.out hB.size))).mono ?_
          rintro e w'' ⟨v, rfl, hv, hb⟩
          exact ⟨v, rfl, hK v w'' hb hv⟩
        refine steps_cons (told_last ?_ ?_) steps_nil
        · intro e he; simp only [tl_rPubY, List.mem_cons, List.mem_nil_iff, or_false] at he; rcases he with rfl | rfl | rfl | rfl | rfl | rfl | rfl | rfl <;> kernel_rfl
        intro V a w' ha hB hF
        refine ⟨_, rfl, rfl, fun K hK => ?_⟩
        have e50 := told_get 7 (tl_rPubY_ok (zNew (w.heap.size + 2)) uri ver l w) rfl ha rfl (by kernel_rfl)
        have F50 := hF _ (List.mem_of_getElem? (i := 7) rfl)
        obtain ⟨k_50, i_50, x_50, A_50, n_50, c_50, B_50, m_50, d_50, hv50⟩ := VAL.shape F50
        rw [hv50] at e50 F50
        have e8 : a.tmps[8]? = some (.pointer (some ⟨w.heap.size, 0, none⟩)) := by rw [ha]; exact (putSel_off (by rfl)).trans rfl
        have hg := HR.out.on hB
        have f0 := hg.fr 0
        have y0 := hg.c0
        have f1 := hg.fr 1
        have y1 := hg.c1
        have f2 := hg.fr 2
        have y2 := hg.c2
        have f3 := hg.fr 3
        have y3 := hg.c3
        have f4 := hg.fr 4
        have y4 := hg.c4
        refine skip_ (w1 := five w' (w.heap.size) (.int .i64 k_50) (.bool i_50) (.string x_50) (.slice A_50 n_50 c_50) (.slice B_50 m_50 d_50)) rfl rfl ?_ (hK _ _ ?_)
        · clear ha hF hK K
          go_simp
          all_goals first | rfl | (constructor <;> rfl)
        clear hK K hF e50 e8 f0 y0 f1 y1 f2 y2 f3 y3 f4 y4
        have hres : BX (five w' (w.heap.size) (.int .i64 k_50) (.bool i_50) (.string x_50) (.slice A_50 n_50 c_50) (.slice B_50 m_50 d_50)) (w.heap.size) (.int .i64 k_50) (.bool i_50) (.string x_50) (.slice A_50 n_50 c_50) (.slice B_50 m_50 d_50) := hg.put (.int .i64 k_50) (.bool i_50) (.string x_50) (.slice A_50 n_50 c_50) (.slice B_50 m_50 d_50)
        have r0 := hres.c0
        have r1 := hres.c1
        have r2 := hres.c2
        have r3 := hres.c3
        have r4 := hres.c4
        have HF := Lib.hid F50
        have HB' := Lib.hid hB
        clear hres hg F50 hB
        rw [ha]
        clear ha
        simp only [tl_rPubY, Tolds.put, List.map_cons, List.map_nil, putSel, if_true, Act.put, List.setIfInBounds_toArray, List.set_cons_zero, List.set_cons_succ, hv50]
        clear hv50
        generalize V 0 = u0
        generalize V 1 = u1
        generalize V 2 = u2
        generalize V 3 = u3
        generalize V 4 = u4
        generalize V 5 = u5
        generalize V 6 = u6
        try clear V
        go_wp2
        exact bodyPost_ret (v := .agg #[.int .i64 k_50, .bool i_50, .string x_50, .slice A_50 n_50 c_50, .slice B_50 m_50 d_50]) (by simp [results, Tryz.results48, go_sem, r0, r1, r2, r3, r4]) rfl ⟨_, rfl, five_New HF.out (fun b hb => ⟨by have := hb.1; omega, hb.2, by have := hb.1; omega⟩), five_below (HB.out.trans (HB'.out.mono HB.out.size)) _ _ _ _ _ _ (by omega)⟩
      · skip
        have HBK := HBK0
        clear HBK0
        go_wp2_with fail
        refine start_ (n := 7) (S := fun w' => True) (ds := []) #[false, false, false, false, false, false, false] (by kernel_rfl) rfl rfl trivial (fun hHeld => ?_)
        clear hHeld
        have hb : Below wr.heap.size wr wr.drew := (Below.refl _ _).drew
        replace HVV := Lib.hid (VAL.on HVV.out (fun b hb => hb.2) hb)
        replace HVV : Hid (VLV (zNew (w.heap.size + 2)) (lsT (l.map Dg.tree)) wr.drew (.agg #[.int .i64 4, .bool false, .string ⟨#[]⟩, .slice OA p ocap, .slice none 0 0])) := Lib.hid (by
          have := HVV.out
          rw [← HLM.out] at this
          rw [← HLM.out]
          exact VAL.mono (fun b hb => hb) this)
        replace HB := Lib.hid (HB.out.trans (hb.mono HB.out.size))
        replace HO := Lib.hid (HO.out.on hb)
        replace HR := Lib.hid (HR.out.on hb)
        replace HQ := Lib.hid (Nat.le_trans HQ.out hb.size)
        clear hb
        generalize wr.drew = c at *
        refine inv_ (B := [0, 0, 2, 0, 14, 31, 63]) [0, 1, 2, 3, 4, 5, 6] (ToldI _ (tl_rPubN (zNew (w.heap.size + 2)) uri ver l w) 6 c _) rfl (by kernel_rfl) (by kernel_rfl) (by kernel_rfl) told_begin ?_ (told_end (by kernel_rfl))
        refine steps_cons (told_step 0 (tl_rPubN_ok (zNew (w.heap.size + 2)) uri ver l w) (tl_rPubN_up (zNew (w.heap.size + 2)) uri ver l w) rfl (by kernel_rfl) ?_) ?_
        · intro b V a w' ha hB hF hon
          refine ⟨_, rfl, rfl, fun K hK => ?_⟩
          refine value_ (w1 := w'.alloc (.cells #[.string ⟨#[117, 114, 105]⟩, .string ⟨#[100, 105, 97, 103, 110, 111, 115, 116, 105, 99, 115]⟩] 9)) (v := .slice (some ⟨w'.heap.size, 0, none⟩) 2 2) rfl rfl ?_ (hK _ _ ((Below.refl _ _).alloc (Nat.le_refl _) _) (TSV_new _ _ _ _ _ rfl (zNew_alloc (Nat.le_trans HQ.out hB.size))))
          clear ha hF hon hK K
          go_simp
          all_goals first | rfl | (constructor <;> rfl)
        refine steps_cons (told_step 1 (tl_rPubN_ok (zNew (w.heap.size + 2)) uri ver l w) (tl_rPubN_up (zNew (w.heap.size + 2)) uri ver l w) rfl (by kernel_rfl) ?_) ?_
        · intro b V a w' ha hB hF hon
          refine ⟨_, rfl, rfl, fun K hK => ?_⟩
          have e0 : a.tmps[0]? = some (.string uri) := by rw [ha]; exact (putSel_off (by rfl)).trans rfl
          refine value_ (w1 := w') (v := .string uri) rfl rfl ?_ (hK _ _ (Below.refl _ _) rfl)
          clear ha hF hon hK K
          go_simp
          all_goals first | rfl | (constructor <;> rfl)
        refine steps_cons (told_step 2 (tl_rPubN_ok (zNew (w.heap.size + 2)) uri ver l w) (tl_rPubN_up (zNew (w.heap.size + 2)) uri ver l w) rfl (by kernel_rfl) ?_) ?_
        · intro b V a w' ha hB hF hon
          refine ⟨_, rfl, rfl, fun K hK => ?_⟩
          have e52 := told_get 1 (tl_rPubN_ok (zNew (w.heap.size + 2)) uri ver l w) rfl ha (hon 1 (by kernel_rfl)) (by kernel_rfl)
          have F52 : V 1 = .string uri := told_fact 1 hF rfl (hon 1 (by kernel_rfl))
          rw [F52] at e52
          refine goes_ Tryz.func85 (by kernel_rfl) rfl #[.string uri] rfl rfl rfl (by simp only [List.map_toArray, List.map_cons, List.map_nil, Act.eval, Array.getD_eq_getD_getElem?, e52, Option.getD_some]) ?_
          refine ((rStr uri w').mono (fun _ _ h => h.mk (Nat.le_trans HQ.out hB.size))).mono ?_
          rintro e w'' ⟨v, rfl, hv, hb⟩
          exact ⟨v, rfl, hK v w'' hb hv⟩
        refine steps_cons (told_step 3 (tl_rPubN_ok (zNew (w.heap.size + 2)) uri ver l w) (tl_rPubN_up (zNew (w.heap.size + 2)) uri ver l w) rfl (by kernel_rfl) ?_) ?_
        · intro b V a w' ha hB hF hon
          refine ⟨_, rfl, rfl, fun K hK => ?_⟩
          have e9 : a.tmps[9]? = some (.pointer (some ⟨w.heap.size + 1, 0, none⟩)) := by rw [ha]; exact (putSel_off (by rfl)).trans rfl
          have hg := HO.out.on hB
          have y0 := hg.c0
          have y1 := hg.c1
          have y2 := hg.c2
          have y3 := hg.c3
          have y4 := hg.c4
          clear hg
          refine value_ (w1 := w') (v := .agg #[.int .i64 4, .bool false, .string ⟨#[]⟩, .slice OA p ocap, .slice none 0 0]) rfl rfl ?_ (hK _ _ (Below.refl _ _) (VLV.up (z := (zNew (w.heap.size + 2))) HVV.out hB))
          clear ha hF hon hK K
          go_simp
          all_goals first | rfl | (constructor <;> rfl)
        refine steps_cons (told_step 4 (tl_rPubN_ok (zNew (w.heap.size + 2)) uri ver l w) (tl_rPubN_up (zNew (w.heap.size + 2)) uri ver l w) rfl (by kernel_rfl) ?_) ?_
        · intro b V a w' ha hB hF hon
          refine ⟨_, rfl, rfl, fun K hK => ?_⟩
          have e53 := told_get 2 (tl_rPubN_ok (zNew (w.heap.size + 2)) uri ver l w) rfl ha (hon 2 (by kernel_rfl)) (by kernel_rfl)
          have F53 := told_fact 2 hF rfl (hon 2 (by kernel_rfl))
          obtain ⟨k_53, i_53, x_53, A_53, n_53, c_53, B_53, m_53, d_53, hv53⟩ := VAL.shape F53
          rw [hv53] at e53 F53
          have e54 := told_get 3 (tl_rPubN_ok (zNew (w.heap.size + 2)) uri ver l w) rfl ha (hon 3 (by kernel_rfl)) (by kernel_rfl)
          have F54 := told_fact 3 hF rfl (hon 3 (by kernel_rfl))
          obtain ⟨k_54, i_54, x_54, A_54, n_54, c_54, B_54, m_54, d_54, hv54⟩ := VAL.shape F54
          rw [hv54] at e54 F54
          refine value_ (w1 := w'.alloc (.cells #[.int .i64 k_53, .bool i_53, .string x_53, .slice A_53 n_53 c_53, .slice B_53 m_53 d_53, .int .i64 k_54, .bool i_54, .string x_54, .slice A_54 n_54 c_54, .slice B_54 m_54 d_54] 30)) (v := .slice (some ⟨w'.heap.size, 0, none⟩) 2 2) rfl rfl ?_ (hK _ _ ((Below.refl _ _).alloc (Nat.le_refl _) _) (VSV_new _ _ _ _ _ (VR.cons F53 (VR.cons F54 (VR.none _ _))) (zNew_alloc (Nat.le_trans HQ.out hB.size))))
          clear ha hF hon hK K
          go_simp
          all_goals first | rfl | (constructor <;> rfl)
        refine steps_cons (told_step 5 (tl_rPubN_ok (zNew (w.heap.size + 2)) uri ver l w) (tl_rPubN_up (zNew (w.heap.size + 2)) uri ver l w) rfl (by kernel_rfl) ?_) ?_
        · intro b V a w' ha hB hF hon
          refine ⟨_, rfl, rfl, fun K hK => ?_⟩
          have e51 := told_get 0 (tl_rPubN_ok (zNew (w.heap.size + 2)) uri ver l w) rfl ha (hon 0 (by kernel_rfl)) (by kernel_rfl)
          have F51 := told_fact 0 hF rfl (hon 0 (by kernel_rfl))
          have e55 := told_get 4 (tl_rPubN_ok (zNew (w.heap.size + 2)) uri ver l w) rfl ha (hon 4 (by kernel_rfl)) (by kernel_rfl)
          have F55 := told_fact 4 hF rfl (hon 4 (by kernel_rfl))
          refine goes_ Tryz.func84 (by kernel_rfl) rfl #[V 0, V 4] rfl rfl rfl (by simp only [List.map_toArray, List.map_cons, List.map_nil, Act.eval, Array.getD_eq_getD_getElem?, e51, e55, Option.getD_some]) ?_
          refine ((rObject_any w' (zNew (w.heap.size + 2)) _ _ F51 F55 rfl HBK.out).mono (fun _ _ h => h.mk (Nat.le_trans HQ.out hB.size))).mono ?_
          rintro e w'' ⟨v, rfl, hv, hb⟩
          exact ⟨v, rfl, hK v w'' hb hv⟩
        refine steps_cons (told_last ?_ ?_) steps_nil
        · intro e he; simp only [tl_rPubN, List.mem_cons, List.mem_nil_iff, or_false] at he; rcases he with rfl | rfl | rfl | rfl | rfl | rfl <;> kernel_rfl
        intro V a w' ha hB hF
        refine ⟨_, rfl, rfl, fun K hK => ?_⟩
        have e56 := told_get 5 (tl_rPubN_ok (zNew (w.heap.size + 2)) uri ver l w) rfl ha rfl (by kernel_rfl)
        have F56 := hF _ (List.mem_of_getElem? (i := 5) rfl)
        obtain ⟨k_56, i_56, x_56, A_56, n_56, c_56, B_56, m_56, d_56, hv56⟩ := VAL.shape F56
        rw [hv56] at e56 F56
        have e8 : a.tmps[8]? = some (.pointer (some ⟨w.heap.size, 0, none⟩)) := by rw [ha]; exact (putSel_off (by rfl)).trans rfl
        have hg := HR.out.on hB
        have f0 := hg.fr 0
        have y0 := hg.c0
        have f1 := hg.fr 1
        have y1 := hg.c1
        have f2 := hg.fr 2
        have y2 := hg.c2
        have f3 := hg.fr 3
        have y3 := hg.c3
        have f4 := hg.fr 4
        have y4 := hg.c4
        refine skip_ (w1 := five w' (w.heap.size) (.int .i64 k_56) (.bool i_56) (.string x_56) (.slice A_56 n_56 c_56) (.slice B_56 m_56 d_56)) rfl rfl ?_ (hK _ _ ?_)
        · clear ha hF hK K
          go_simp
          all_goals first | rfl | (constructor <;> rfl)
        clear hK K hF e56 e8 f0 y0 f1 y1 f2 y2 f3 y3 f4 y4
        have hres : BX (five w' (w.heap.size) (.int .i64 k_56) (.bool i_56) (.string x_56) (.slice A_56 n_56 c_56) (.slice B_56 m_56 d_56)) (w.heap.size) (.int .i64 k_56) (.bool i_56) (.string x_56) (.slice A_56 n_56 c_56) (.slice B_56 m_56 d_56) := hg.put (.int .i64 k_56) (.bool i_56) (.string x_56) (.slice A_56 n_56 c_56) (.slice B_56 m_56 d_56)
        have r0 := hres.c0
        have r1 := hres.c1
        have r2 := hres.c2
        have r3 := hres.c3
        have r4 := hres.c4
        have HF := Lib.hid F56
        have HB' := Lib.hid hB
        clear hres hg F56 hB
        rw [ha]
        clear ha
        simp only [tl_rPubN, Tolds.put, List.map_cons, List.map_nil, putSel, if_true, Act.put, List.setIfInBounds_toArray, List.set_cons_zero, List.set_cons_succ, hv56]
        clear hv56
        generalize V 0 = u0
        generalize V 1 = u1
        generalize V 2 = u2
        generalize V 3 = u3
        generalize V 4 = u4
        try clear V
        go_wp2
        exact bodyPost_ret (v := .agg #[.int .i64 k_56, .bool i_56, .string x_56, .slice A_56 n_56 c_56, .slice B_56 m_56 d_56]) (by simp [results, Tryz.results48, go_sem, r0, r1, r2, r3, r4]) rfl ⟨_, rfl, five_New HF.out (fun b hb => ⟨by have := hb.1; omega, hb.2, by have := hb.1; omega⟩), five_below (HB.out.trans (HB'.out.mono HB.out.size)) _ _ _ _ _ _ (by omega)⟩
end Go.Proofs.YthndgekjccclnaaGreatDoor
