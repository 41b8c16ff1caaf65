/-
  Joined texts: MkRefSym.
-/
import Derived.Test.YthndgekjccclnaaGreatDoorPkMkK
import Derived.Test.YthndgekjccclnaaGreatDoorPkMkI
namespace Go.Proofs.YthndgekjccclnaaGreatDoor
open Go.RowKit Val Num Go.Proofs.YthndgekjccclnaaGreatDoorW.PrintLast
set_option linter.unusedVariables false
set_option linter.unusedSimpArgs false

def Rsym (t : SY) : Prop := ∀ (B : Nat) (W : World) (A : Option Addr) (cap : Nat), SYA B A t.n t.kids W → (lsF t.n fun j => (t.kids j).tree).bulk ≤ 1073741824 → Calls Tryz.prog 41 #[.slice A t.n cap] W (Copied (lsF t.n fun j => (t.kids j).tree) W)
def tl_rSym (z : Zone) (nm : ByteArray) (x0 x1 x2 x3 x4 x5 x6 x7 x8 : Int) (A' : Option Addr) (n' cap' : Nat) (C' : Nat → VT) (w : World) (g5 : Nat) (ov : Value) : Tolds := [(0, 17, fun _ v => v = .pointer (some ⟨w.heap.size + 1, 3, none⟩)), (1, 18, fun _ v => v = ov), (2, 19, TSV z [⟨#[110, 97, 109, 101]⟩, ⟨#[107, 105, 110, 100]⟩, ⟨#[114, 97, 110, 103, 101]⟩, ⟨#[115, 101, 108, 101, 99, 116, 105, 111, 110, 82, 97, 110, 103, 101]⟩, ⟨#[99, 104, 105, 108, 100, 114, 101, 110]⟩]), (3, 20, fun _ v => v = .pointer (some ⟨g5, 0, none⟩)), (4, 21, fun _ v => v = .string nm), (5, 22, VLV z (txT nm)), (6, 23, fun _ v => v = .pointer (some ⟨g5, 1, none⟩)), (7, 24, fun _ v => v = .int .i64 x0), (8, 25, VLV z (nbT x0)), (9, 26, fun _ v => v = .pointer (some ⟨g5, 2, none⟩)), (10, 27, fun _ v => v = .agg #[.int .i64 x1, .int .i64 x2, .int .i64 x3, .int .i64 x4]), (11, 28, VLV z (rangeT x1 x2 x3 x4)), (12, 29, fun _ v => v = .pointer (some ⟨g5, 6, none⟩)), (13, 30, fun _ v => v = .agg #[.int .i64 x5, .int .i64 x6, .int .i64 x7, .int .i64 x8]), (14, 31, VLV z (rangeT x5 x6 x7 x8)), (15, 32, fun _ v => v = .pointer (some ⟨g5, 10, none⟩)), (16, 33, fun _ v => v = .slice A' n' cap'), (17, 34, VLV z (lsF n' C')), (18, 35, VSV z [(txT nm), (nbT x0), (rangeT x1 x2 x3 x4), (rangeT x5 x6 x7 x8), (lsF n' C')]), (19, 36, VLV z (obT [⟨#[110, 97, 109, 101]⟩, ⟨#[107, 105, 110, 100]⟩, ⟨#[114, 97, 110, 103, 101]⟩, ⟨#[115, 101, 108, 101, 99, 116, 105, 111, 110, 82, 97, 110, 103, 101]⟩, ⟨#[99, 104, 105, 108, 100, 114, 101, 110]⟩] [(txT nm), (nbT x0), (rangeT x1 x2 x3 x4), (rangeT x5 x6 x7 x8), (lsF n' C')])), (20, 37, VSV z [(obT [⟨#[110, 97, 109, 101]⟩, ⟨#[107, 105, 110, 100]⟩, ⟨#[114, 97, 110, 103, 101]⟩, ⟨#[115, 101, 108, 101, 99, 116, 105, 111, 110, 82, 97, 110, 103, 101]⟩, ⟨#[99, 104, 105, 108, 100, 114, 101, 110]⟩] [(txT nm), (nbT x0), (rangeT x1 x2 x3 x4), (rangeT x5 x6 x7 x8), (lsF n' C')])])]
theorem tl_rSym_ok (z : Zone) (nm : ByteArray) (x0 x1 x2 x3 x4 x5 x6 x7 x8 : Int) (A' : Option Addr) (n' cap' : Nat) (C' : Nat → VT) (w : World) (g5 : Nat) (ov : Value) : (tl_rSym z nm x0 x1 x2 x3 x4 x5 x6 x7 x8 A' n' cap' C' w g5 ov).ok 21 = true := by kernel_rfl
theorem tl_rSym_up (z : Zone) (nm : ByteArray) (x0 x1 x2 x3 x4 x5 x6 x7 x8 : Int) (A' : Option Addr) (n' cap' : Nat) (C' : Nat → VT) (w : World) (g5 : Nat) (ov : Value) : (tl_rSym z nm x0 x1 x2 x3 x4 x5 x6 x7 x8 A' n' cap' C' w g5 ov).up := (tup_cons (fun _ _ _ h _ => h) (tup_cons (fun _ _ _ h _ => h) (tup_cons (fun _ _ _ h hb => TSV.up h hb) (tup_cons (fun _ _ _ h _ => h) (tup_cons (fun _ _ _ h _ => h) (tup_cons (fun _ _ _ h hb => VLV.up h hb) (tup_cons (fun _ _ _ h _ => h) (tup_cons (fun _ _ _ h _ => h) (tup_cons (fun _ _ _ h hb => VLV.up h hb) (tup_cons (fun _ _ _ h _ => h) (tup_cons (fun _ _ _ h _ => h) (tup_cons (fun _ _ _ h hb => VLV.up h hb) (tup_cons (fun _ _ _ h _ => h) (tup_cons (fun _ _ _ h _ => h) (tup_cons (fun _ _ _ h hb => VLV.up h hb) (tup_cons (fun _ _ _ h _ => h) (tup_cons (fun _ _ _ h _ => h) (tup_cons (fun _ _ _ h hb => VLV.up h hb) (tup_cons (fun _ _ _ h hb => VSV.up h hb) (tup_cons (fun _ _ _ h hb => VLV.up h hb) (tup_cons (fun _ _ _ h hb => VSV.up h hb) tup_nil)))))))))))))))))))))
set_option maxRecDepth 100000 in
set_option maxHeartbeats 8000000 in
theorem rSymbols_of (B n : Nat) (kids : Nat → SY) (w : World) (A : Option Addr) (cap : Nat) (hl : n ≤ 1073741824) (hr : SYA B A n kids w) (hbk : (lsF n fun j => (kids j).tree).bulk ≤ 1073741824) (ih : ∀ j, j < n → Rsym (kids j)) : Calls Tryz.prog 41 #[.slice A n cap] w (Copied (lsF n fun j => (kids j).tree) w) := by
  have Hhr := Lib.hid hr
  have Hhbk := Lib.hid hbk
  have Hih := Lib.hid ih
  clear hr hbk ih
  obtain ⟨i0, hi0, hz0, hz1, hz2⟩ := info_parts Tryz.infoV
  have HI0 := Lib.hid hi0
  have HZ0 := Lib.hid hz0
  have HZ1 := Lib.hid hz1
  have HZ2 := Lib.hid hz2
  clear hi0 hz0 hz1 hz2
  have HAT : Hid (ALat w (w.heap.size + 2) w.heap.size (w.heap.size + 1)) := Lib.hid ⟨by omega, by omega, by omega, by omega, by omega⟩
  go_enter Tryz.func41, Tryz.ntmps41
  go_wp2_with fail
  go_loopg [4] n (fun q v wr => ∃ (p : Nat) (ov : Value) (xs : List Value), p + q = n ∧ v = .int .i64 p ∧ AL w (w.heap.size + 2) w.heap.size (w.heap.size + 1) (fun j => (kids j).tree) p ov xs wr)
  case atStart => exact ⟨0, _, [], by omega, rfl, al2_0 w _ _, al2_1 w _ _, al2_below w _ _, World.ownsRow_nil _ _ _ _, VR.nil _ _ _, by simp⟩
  case round =>
    obtain ⟨p, ov, xs, hp, rfl, hM⟩ := hrel
    have HP := Lib.hid hp
    have HM := Lib.hid hM
    clear hp hM
    by_cases hlt : p < n
    · have hd0 : decide ((p : Int) < (n : Int)) = true := by simp; omega
      have hd1 : decide (p < n) = true := by simp; omega
      have i1 : (0 : Int) ≤ p := by omega
      have i2 : (p : Int) < n := by omega
      rcases Hhr.out.row with h0 | ⟨bl, off, rfl, hbl, hc⟩
      · omega
      obtain ⟨ds, hds, hsv⟩ := hc p hlt
      have hcall := Hih.out p hlt
      have hkb := lsF_kid n (fun j => (kids j).tree) p hlt
      obtain ⟨nm, x0, x1, x2, x3, x4, x5, x6, x7, x8, n', kids', hkp⟩ := SYV.root hsv
      rw [hkp] at hsv hcall hkb
      have hsv0 := hsv
      obtain ⟨A', cap', rfl, hq, hrow⟩ := hsv
      have HT : Hid ((fun j => (kids j).tree) p = symT nm x0 x1 x2 x3 x4 x5 x6 x7 x8 (lsF n' fun j => (kids' j).tree)) := Lib.hid (by show (kids p).tree = _; rw [hkp]; rfl)
      have kk : ∀ o, wr.cell? ⟨bl, o, none⟩ = w.cell? ⟨bl, o, none⟩ := fun o => HM.out.below.cell (p := ⟨bl, o, none⟩) (Nat.lt_of_lt_of_le hbl Hhr.out.le)
      have k0 := (kk _).trans (hds 0 _ rfl)
      have k1 := (kk _).trans (hds 1 _ rfl)
      have k2 := (kk _).trans (hds 2 _ rfl)
      have k3 := (kk _).trans (hds 3 _ rfl)
      have k4 := (kk _).trans (hds 4 _ rfl)
      have k5 := (kk _).trans (hds 5 _ rfl)
      have k6 := (kk _).trans (hds 6 _ rfl)
      have k7 := (kk _).trans (hds 7 _ rfl)
      have k8 := (kk _).trans (hds 8 _ rfl)
      have k9 := (kk _).trans (hds 9 _ rfl)
      have k10 := (kk _).trans (hds 10 _ rfl)
      rw [Nat.add_zero] at k0
      have hkb2 : (symT nm x0 x1 x2 x3 x4 x5 x6 x7 x8 (lsF n' fun j => (kids' j).tree)).bulk < (lsF n fun j => (kids j).tree).bulk := hkb
      have HSB : Hid ((symT nm x0 x1 x2 x3 x4 x5 x6 x7 x8 (lsF n' fun j => (kids' j).tree)).bulk ≤ 1073741824) := Lib.hid (by have := Hhbk.out; omega)
      have HC : Hid (∀ W, Below w.heap.size w W → Calls Tryz.prog 41 #[.slice A' n' cap'] W (Copied (lsF n' fun j => (kids' j).tree) W)) := Lib.hid (fun W hW => hcall B W A' cap' ⟨Nat.le_trans Hhr.out.le hW.size, SYS.on hrow (fun b hb => Nat.lt_of_lt_of_le hb Hhr.out.le) hW⟩ (by have := symT_kid nm x0 x1 x2 x3 x4 x5 x6 x7 x8 (lsF n' fun j => (kids' j).tree); have := HSB.out; show (lsF n' fun j => (kids' j).tree).bulk ≤ _; omega))
      have HQ := Lib.hid hq
      generalize (fun j => (kids' j).tree) = C' at *
      clear kk hds hc hcall hsv0 hrow hlt hkp hq hkb hkb2
      go_wp2_with fail
      have hba := (Below.refl wr.heap.size wr).alloc (Nat.le_refl _) (.cells #[.string nm, .int .i64 x0, .int .i64 x1, .int .i64 x2, .int .i64 x3, .int .i64 x4, .int .i64 x5, .int .i64 x6, .int .i64 x7, .int .i64 x8, .slice A' n' cap'] 114)
      have HX : Hid (BK (wr.alloc (.cells #[.string nm, .int .i64 x0, .int .i64 x1, .int .i64 x2, .int .i64 x3, .int .i64 x4, .int .i64 x5, .int .i64 x6, .int .i64 x7, .int .i64 x8, .slice A' n' cap'] 114)) wr.heap.size 114 #[.string nm, .int .i64 x0, .int .i64 x1, .int .i64 x2, .int .i64 x3, .int .i64 x4, .int .i64 x5, .int .i64 x6, .int .i64 x7, .int .i64 x8, .slice A' n' cap']) := Lib.hid (BK.new wr _ _)
      replace HM := Lib.hid (HM.out.on hba)
      clear hba k0 k1 k2 k3 k4 k5 k6 k7 k8 k9 k10
      generalize (wr.alloc (.cells #[.string nm, .int .i64 x0, .int .i64 x1, .int .i64 x2, .int .i64 x3, .int .i64 x4, .int .i64 x5, .int .i64 x6, .int .i64 x7, .int .i64 x8, .slice A' n' cap'] 114)) = w1 at *
      generalize wr.heap.size = g5 at *
      refine start_ (n := 24) (S := fun w' => True) (ds := []) #[false, false, false, false, false, false, false, false, false, false, false, false, false, false, false, false, false, false, false, false, false, false, false, false] (by kernel_rfl) rfl rfl trivial (fun hHeld => ?_)
      clear hHeld
      have hb : Below w1.heap.size w1 w1.drew := (Below.refl _ _).drew
      replace HM := Lib.hid (HM.out.on hb)
      replace HX := Lib.hid (HX.out.on hb)
      clear hb
      generalize w1.drew = c at *
      have HO := Lib.hid HM.out.out
      have HBw := Lib.hid HM.out.below
      refine inv_ (B := [0, 1, 0, 0, 8, 24, 0, 64, 248, 0, 512, 2040, 0, 4096, 16376, 0, 32768, 131064, 262136, 524284, 1048572, 2097151, 4194303, 8388607]) [0, 1, 2, 3, 4, 5, 6, 7, 8, 9, 10, 11, 12, 13, 14, 15, 16, 17, 18, 19, 20, 21, 22, 23] (ToldA _ (AppG w (w.heap.size + 2) (w.heap.size) (w.heap.size + 1) (fun j => (kids j).tree) p ov) (tl_rSym (zNew c.heap.size) nm x0 x1 x2 x3 x4 x5 x6 x7 x8 A' n' cap' C' w g5 ov) 21 38 22 39 (.pointer (some ⟨w.heap.size + 1, 3, none⟩)) 23 c _) rfl (by kernel_rfl) (by kernel_rfl) (by kernel_rfl) toldG_begin ?_ (after_end (by kernel_rfl) (by kernel_rfl))
      refine steps_cons (toldG_step 0 (tl_rSym_ok (zNew c.heap.size) nm x0 x1 x2 x3 x4 x5 x6 x7 x8 A' n' cap' C' w g5 ov) (tl_rSym_up (zNew c.heap.size) nm x0 x1 x2 x3 x4 x5 x6 x7 x8 A' n' cap' C' w g5 ov) rfl (by kernel_rfl) ?_) ?_
      · intro b V a w' ha hB hF hon
        refine ⟨_, rfl, rfl, fun K hK => ?_⟩
        have e3 : a.tmps[3]? = some (.pointer (some ⟨w.heap.size + 1, 0, none⟩)) := by rw [ha]; exact (putSel_off (by rfl)).trans rfl
        refine value_ (w1 := w') (v := .pointer (some ⟨w.heap.size + 1, 3, none⟩)) rfl rfl ?_ (hK _ _ (Below.refl _ _) rfl)
        clear ha hF hon hK K
        go_simp
        all_goals first | rfl | (constructor <;> rfl)
      refine steps_cons (toldG_step 1 (tl_rSym_ok (zNew c.heap.size) nm x0 x1 x2 x3 x4 x5 x6 x7 x8 A' n' cap' C' w g5 ov) (tl_rSym_up (zNew c.heap.size) nm x0 x1 x2 x3 x4 x5 x6 x7 x8 A' n' cap' C' w g5 ov) rfl (by kernel_rfl) ?_) ?_
      · intro b V a w' ha hB hF hon
        refine ⟨_, rfl, rfl, fun K hK => ?_⟩
        have e17 := told_get 0 (tl_rSym_ok (zNew c.heap.size) nm x0 x1 x2 x3 x4 x5 x6 x7 x8 A' n' cap' C' w g5 ov) rfl ha (hon 0 (by kernel_rfl)) (by kernel_rfl)
        have F17 : V 0 = .pointer (some ⟨w.heap.size + 1, 3, none⟩) := told_fact 0 hF rfl (hon 0 (by kernel_rfl))
        rw [F17] at e17
        have hg := HO.out.on hB
        have y3 := hg.c3
        clear hg
        refine value_ (w1 := w') (v := ov) rfl rfl ?_ (hK _ _ (Below.refl _ _) rfl)
        clear ha hF hon hK K
        go_simp
        all_goals first | rfl | (constructor <;> rfl)
      refine steps_cons (toldG_step 2 (tl_rSym_ok (zNew c.heap.size) nm x0 x1 x2 x3 x4 x5 x6 x7 x8 A' n' cap' C' w g5 ov) (tl_rSym_up (zNew c.heap.size) nm x0 x1 x2 x3 x4 x5 x6 x7 x8 A' n' cap' C' w g5 ov) rfl (by kernel_rfl) ?_) ?_
      · intro b V a w' ha hB hF hon
        refine ⟨_, rfl, rfl, fun K hK => ?_⟩
        refine value_ (w1 := w'.alloc (.cells #[.string ⟨#[110, 97, 109, 101]⟩, .string ⟨#[107, 105, 110, 100]⟩, .string ⟨#[114, 97, 110, 103, 101]⟩, .string ⟨#[115, 101, 108, 101, 99, 116, 105, 111, 110, 82, 97, 110, 103, 101]⟩, .string ⟨#[99, 104, 105, 108, 100, 114, 101, 110]⟩] 9)) (v := .slice (some ⟨w'.heap.size, 0, none⟩) 5 5) rfl rfl ?_ (hK _ _ ((Below.refl _ _).alloc (Nat.le_refl _) _) (TSV_new _ _ _ _ _ rfl (zNew_alloc hB.size)))
        clear ha hF hon hK K
        go_simp
        all_goals first | rfl | (constructor <;> rfl)
      refine steps_cons (toldG_step 3 (tl_rSym_ok (zNew c.heap.size) nm x0 x1 x2 x3 x4 x5 x6 x7 x8 A' n' cap' C' w g5 ov) (tl_rSym_up (zNew c.heap.size) nm x0 x1 x2 x3 x4 x5 x6 x7 x8 A' n' cap' C' w g5 ov) rfl (by kernel_rfl) ?_) ?_
      · intro b V a w' ha hB hF hon
        refine ⟨_, rfl, rfl, fun K hK => ?_⟩
        have e5 : a.tmps[5]? = some (.pointer (some ⟨g5, 0, none⟩)) := by rw [ha]; exact (putSel_off (by rfl)).trans rfl
        refine value_ (w1 := w') (v := .pointer (some ⟨g5, 0, none⟩)) rfl rfl ?_ (hK _ _ (Below.refl _ _) rfl)
        clear ha hF hon hK K
        go_simp
        all_goals first | rfl | (constructor <;> rfl)
      refine steps_cons (toldG_step 4 (tl_rSym_ok (zNew c.heap.size) nm x0 x1 x2 x3 x4 x5 x6 x7 x8 A' n' cap' C' w g5 ov) (tl_rSym_up (zNew c.heap.size) nm x0 x1 x2 x3 x4 x5 x6 x7 x8 A' n' cap' C' w g5 ov) rfl (by kernel_rfl) ?_) ?_
      · intro b V a w' ha hB hF hon
        refine ⟨_, rfl, rfl, fun K hK => ?_⟩
        have e20 := told_get 3 (tl_rSym_ok (zNew c.heap.size) nm x0 x1 x2 x3 x4 x5 x6 x7 x8 A' n' cap' C' w g5 ov) rfl ha (hon 3 (by kernel_rfl)) (by kernel_rfl)
        have F20 : V 3 = .pointer (some ⟨g5, 0, none⟩) := told_fact 3 hF rfl (hon 3 (by kernel_rfl))
        rw [F20] at e20
        have hg := HX.out.on hB
        have y0 := hg.c 0 rfl
        clear hg
        refine value_ (w1 := w') (v := .string nm) rfl rfl ?_ (hK _ _ (Below.refl _ _) rfl)
        clear ha hF hon hK K
        go_simp
        all_goals first | rfl | (constructor <;> rfl)
      refine steps_cons (toldG_step 5 (tl_rSym_ok (zNew c.heap.size) nm x0 x1 x2 x3 x4 x5 x6 x7 x8 A' n' cap' C' w g5 ov) (tl_rSym_up (zNew c.heap.size) nm x0 x1 x2 x3 x4 x5 x6 x7 x8 A' n' cap' C' w g5 ov) rfl (by kernel_rfl) ?_) ?_
      · intro b V a w' ha hB hF hon
        refine ⟨_, rfl, rfl, fun K hK => ?_⟩
        have e21 := told_get 4 (tl_rSym_ok (zNew c.heap.size) nm x0 x1 x2 x3 x4 x5 x6 x7 x8 A' n' cap' C' w g5 ov) rfl ha (hon 4 (by kernel_rfl)) (by kernel_rfl)
        have F21 : V 4 = .string nm := told_fact 4 hF rfl (hon 4 (by kernel_rfl))
        rw [F21] at e21
        refine goes_ Tryz.func85 (by kernel_rfl) rfl #[.string nm] rfl rfl rfl (by simp only [List.map_toArray, List.map_cons, List.map_nil, Act.eval, Array.getD_eq_getD_getElem?, e21, Option.getD_some]) ?_
        refine ((rStr nm w').mono (fun _ _ h => h.mk hB.size)).mono ?_
        rintro e w'' ⟨v, rfl, hv, hb⟩
        exact ⟨v, rfl, hK v w'' hb hv⟩
      refine steps_cons (toldG_step 6 (tl_rSym_ok (zNew c.heap.size) nm x0 x1 x2 x3 x4 x5 x6 x7 x8 A' n' cap' C' w g5 ov) (tl_rSym_up (zNew c.heap.size) nm x0 x1 x2 x3 x4 x5 x6 x7 x8 A' n' cap' C' w g5 ov) rfl (by kernel_rfl) ?_) ?_
      · intro b V a w' ha hB hF hon
        refine ⟨_, rfl, rfl, fun K hK => ?_⟩
        have e5 : a.tmps[5]? = some (.pointer (some ⟨g5, 0, none⟩)) := by rw [ha]; exact (putSel_off (by rfl)).trans rfl
        refine value_ (w1 := w') (v := .pointer (some ⟨g5, 1, none⟩)) rfl rfl ?_ (hK _ _ (Below.refl _ _) rfl)
        clear ha hF hon hK K
        go_simp
        all_goals first | rfl | (constructor <;> rfl)
      refine steps_cons (toldG_step 7 (tl_rSym_ok (zNew c.heap.size) nm x0 x1 x2 x3 x4 x5 x6 x7 x8 A' n' cap' C' w g5 ov) (tl_rSym_up (zNew c.heap.size) nm x0 x1 x2 x3 x4 x5 x6 x7 x8 A' n' cap' C' w g5 ov) rfl (by kernel_rfl) ?_) ?_
      · intro b V a w' ha hB hF hon
        refine ⟨_, rfl, rfl, fun K hK => ?_⟩
        have e23 := told_get 6 (tl_rSym_ok (zNew c.heap.size) nm x0 x1 x2 x3 x4 x5 x6 x7 x8 A' n' cap' C' w g5 ov) rfl ha (hon 6 (by kernel_rfl)) (by kernel_rfl)
        have F23 : V 6 = .pointer (some ⟨g5, 1, none⟩) := told_fact 6 hF rfl (hon 6 (by kernel_rfl))
        rw [F23] at e23
        have hg := HX.out.on hB
        have y1 := hg.c 1 rfl
        clear hg
        refine value_ (w1 := w') (v := .int .i64 x0) rfl rfl ?_ (hK _ _ (Below.refl _ _) rfl)
        clear ha hF hon hK K
        go_simp
        all_goals first | rfl | (constructor <;> rfl)
      refine steps_cons (toldG_step 8 (tl_rSym_ok (zNew c.heap.size) nm x0 x1 x2 x3 x4 x5 x6 x7 x8 A' n' cap' C' w g5 ov) (tl_rSym_up (zNew c.heap.size) nm x0 x1 x2 x3 x4 x5 x6 x7 x8 A' n' cap' C' w g5 ov) rfl (by kernel_rfl) ?_) ?_
      · intro b V a w' ha hB hF hon
        refine ⟨_, rfl, rfl, fun K hK => ?_⟩
        have e24 := told_get 7 (tl_rSym_ok (zNew c.heap.size) nm x0 x1 x2 x3 x4 x5 x6 x7 x8 A' n' cap' C' w g5 ov) rfl ha (hon 7 (by kernel_rfl)) (by kernel_rfl)
        have F24 : V 7 = .int .i64 x0 := told_fact 7 hF rfl (hon 7 (by kernel_rfl))
        rw [F24] at e24
        refine goes_ Tryz.func86 (by kernel_rfl) rfl #[.int .i64 x0] rfl rfl rfl (by simp only [List.map_toArray, List.map_cons, List.map_nil, Act.eval, Array.getD_eq_getD_getElem?, e24, Option.getD_some]) ?_
        refine ((rNum x0 w' HQ.out.1).mono (fun _ _ h => h.mk hB.size)).mono ?_
        rintro e w'' ⟨v, rfl, hv, hb⟩
        exact ⟨v, rfl, hK v w'' hb hv⟩
      refine steps_cons (toldG_step 9 (tl_rSym_ok (zNew c.heap.size) nm x0 x1 x2 x3 x4 x5 x6 x7 x8 A' n' cap' C' w g5 ov) (tl_rSym_up (zNew c.heap.size) nm x0 x1 x2 x3 x4 x5 x6 x7 x8 A' n' cap' C' w g5 ov) rfl (by kernel_rfl) ?_) ?_
      · intro b V a w' ha hB hF hon
        refine ⟨_, rfl, rfl, fun K hK => ?_⟩
        have e5 : a.tmps[5]? = some (.pointer (some ⟨g5, 0, none⟩)) := by rw [ha]; exact (putSel_off (by rfl)).trans rfl
        refine value_ (w1 := w') (v := .pointer (some ⟨g5, 2, none⟩)) rfl rfl ?_ (hK _ _ (Below.refl _ _) rfl)
        clear ha hF hon hK K
        go_simp
        all_goals first | rfl | (constructor <;> rfl)
      refine steps_cons (toldG_step 10 (tl_rSym_ok (zNew c.heap.size) nm x0 x1 x2 x3 x4 x5 x6 x7 x8 A' n' cap' C' w g5 ov) (tl_rSym_up (zNew c.heap.size) nm x0 x1 x2 x3 x4 x5 x6 x7 x8 A' n' cap' C' w g5 ov) rfl (by kernel_rfl) ?_) ?_
      · intro b V a w' ha hB hF hon
        refine ⟨_, rfl, rfl, fun K hK => ?_⟩
        have e26 := told_get 9 (tl_rSym_ok (zNew c.heap.size) nm x0 x1 x2 x3 x4 x5 x6 x7 x8 A' n' cap' C' w g5 ov) rfl ha (hon 9 (by kernel_rfl)) (by kernel_rfl)
        have F26 : V 9 = .pointer (some ⟨g5, 2, none⟩) := told_fact 9 hF rfl (hon 9 (by kernel_rfl))
        rw [F26] at e26
        have hg := HX.out.on hB
        have y2 := hg.c 2 rfl
        have y3 := hg.c 3 rfl
        have y4 := hg.c 4 rfl
        have y5 := hg.c 5 rfl
        clear hg
        refine value_ (w1 := w') (v := .agg #[.int .i64 x1, .int .i64 x2, .int .i64 x3, .int .i64 x4]) rfl rfl ?_ (hK _ _ (Below.refl _ _) rfl)
        clear ha hF hon hK K
        go_simp
        all_goals first | rfl | (constructor <;> rfl)
      refine steps_cons (toldG_step 11 (tl_rSym_ok (zNew c.heap.size) nm x0 x1 x2 x3 x4 x5 x6 x7 x8 A' n' cap' C' w g5 ov) (tl_rSym_up (zNew c.heap.size) nm x0 x1 x2 x3 x4 x5 x6 x7 x8 A' n' cap' C' w g5 ov) rfl (by kernel_rfl) ?_) ?_
      · intro b V a w' ha hB hF hon
        refine ⟨_, rfl, rfl, fun K hK => ?_⟩
        have e27 := told_get 10 (tl_rSym_ok (zNew c.heap.size) nm x0 x1 x2 x3 x4 x5 x6 x7 x8 A' n' cap' C' w g5 ov) rfl ha (hon 10 (by kernel_rfl)) (by kernel_rfl)
        have F27 : V 10 = .agg #[.int .i64 x1, .int .i64 x2, .int .i64 x3, .int .i64 x4] := told_fact 10 hF rfl (hon 10 (by kernel_rfl))
        rw [F27] at e27
        refine goes_ Tryz.func44 (by kernel_rfl) rfl #[.agg #[.int .i64 x1, .int .i64 x2, .int .i64 x3, .int .i64 x4]] rfl rfl rfl (by simp only [List.map_toArray, List.map_cons, List.map_nil, Act.eval, Array.getD_eq_getD_getElem?, e27, Option.getD_some]) ?_
        refine ((rRange x1 x2 x3 x4 w' HQ.out.2.1 HQ.out.2.2.1 HQ.out.2.2.2.1 HQ.out.2.2.2.2.1).mono (fun _ _ h => h.mk hB.size)).mono ?_
        rintro e w'' ⟨v, rfl, hv, hb⟩
        exact ⟨v, rfl, hK v w'' hb hv⟩
      refine steps_cons (toldG_step 12 (tl_rSym_ok (zNew c.heap.size) nm x0 x1 x2 x3 x4 x5 x6 x7 x8 A' n' cap' C' w g5 ov) (tl_rSym_up (zNew c.heap.size) nm x0 x1 x2 x3 x4 x5 x6 x7 x8 A' n' cap' C' w g5 ov) rfl (by kernel_rfl) ?_) ?_
      · intro b V a w' ha hB hF hon
        refine ⟨_, rfl, rfl, fun K hK => ?_⟩
        have e5 : a.tmps[5]? = some (.pointer (some ⟨g5, 0, none⟩)) := by rw [ha]; exact (putSel_off (by rfl)).trans rfl
        refine value_ (w1 := w') (v := .pointer (some ⟨g5, 6, none⟩)) rfl rfl ?_ (hK _ _ (Below.refl _ _) rfl)
        clear ha hF hon hK K
        go_simp
        all_goals first | rfl | (constructor <;> rfl)
      refine steps_cons (toldG_step 13 (tl_rSym_ok (zNew c.heap.size) nm x0 x1 x2 x3 x4 x5 x6 x7 x8 A' n' cap' C' w g5 ov) (tl_rSym_up (zNew c.heap.size) nm x0 x1 x2 x3 x4 x5 x6 x7 x8 A' n' cap' C' w g5 ov) rfl (by kernel_rfl) ?_) ?_
      · intro b V a w' ha hB hF hon
        refine ⟨_, rfl, rfl, fun K hK => ?_⟩
        have e29 := told_get 12 (tl_rSym_ok (zNew c.heap.size) nm x0 x1 x2 x3 x4 x5 x6 x7 x8 A' n' cap' C' w g5 ov) rfl ha (hon 12 (by kernel_rfl)) (by kernel_rfl)
        have F29 : V 12 = .pointer (some ⟨g5, 6, none⟩) := told_fact 12 hF rfl (hon 12 (by kernel_rfl))
        rw [F29] at e29
        have hg := HX.out.on hB
        have y6 := hg.c 6 rfl
        have y7 := hg.c 7 rfl
        have y8 := hg.c 8 rfl
        have y9 := hg.c 9 rfl
        clear hg
        refine value_ (w1 := w') (v := .agg #[.int .i64 x5, .int .i64 x6, .int .i64 x7, .int .i64 x8]) rfl rfl ?_ (hK _ _ (Below.refl _ _) rfl)
        clear ha hF hon hK K
        go_simp
        all_goals first | rfl | (constructor <;> rfl)
      refine steps_cons (toldG_step 14 (tl_rSym_ok (zNew c.heap.size) nm x0 x1 x2 x3 x4 x5 x6 x7 x8 A' n' cap' C' w g5 ov) (tl_rSym_up (zNew c.heap.size) nm x0 x1 x2 x3 x4 x5 x6 x7 x8 A' n' cap' C' w g5 ov) rfl (by kernel_rfl) ?_) ?_
      · intro b V a w' ha hB hF hon
        refine ⟨_, rfl, rfl, fun K hK => ?_⟩
        have e30 := told_get 13 (tl_rSym_ok (zNew c.heap.size) nm x0 x1 x2 x3 x4 x5 x6 x7 x8 A' n' cap' C' w g5 ov) rfl ha (hon 13 (by kernel_rfl)) (by kernel_rfl)
        have F30 : V 13 = .agg #[.int .i64 x5, .int .i64 x6, .int .i64 x7, .int .i64 x8] := told_fact 13 hF rfl (hon 13 (by kernel_rfl))
        rw [F30] at e30
        refine goes_ Tryz.func44 (by kernel_rfl) rfl #[.agg #[.int .i64 x5, .int .i64 x6, .int .i64 x7, .int .i64 x8]] rfl rfl rfl (by simp only [List.map_toArray, List.map_cons, List.map_nil, Act.eval, Array.getD_eq_getD_getElem?, e30, Option.getD_some]) ?_
        refine ((rRange x5 x6 x7 x8 w' HQ.out.2.2.2.2.2.1 HQ.out.2.2.2.2.2.2.1 HQ.out.2.2.2.2.2.2.2.1 HQ.out.2.2.2.2.2.2.2.2).mono (fun _ _ h => h.mk hB.size)).mono ?_
        rintro e w'' ⟨v, rfl, hv, hb⟩
        exact ⟨v, rfl, hK v w'' hb hv⟩
      refine steps_cons (toldG_step 15 (tl_rSym_ok (zNew c.heap.size) nm x0 x1 x2 x3 x4 x5 x6 x7 x8 A' n' cap' C' w g5 ov) (tl_rSym_up (zNew c.heap.size) nm x0 x1 x2 x3 x4 x5 x6 x7 x8 A' n' cap' C' w g5 ov) rfl (by kernel_rfl) ?_) ?_
      · intro b V a w' ha hB hF hon
        refine ⟨_, rfl, rfl, fun K hK => ?_⟩
        have e5 : a.tmps[5]? = some (.pointer (some ⟨g5, 0, none⟩)) := by rw [ha]; exact (putSel_off (by rfl)).trans rfl
        refine value_ (w1 := w') (v := .pointer (some ⟨g5, 10, none⟩)) rfl rfl ?_ (hK _ _ (Below.refl _ _) rfl)
        clear ha hF hon hK K
        go_simp
        all_goals first | rfl | (constructor <;> rfl)
      refine steps_cons (toldG_step 16 (tl_rSym_ok (zNew c.heap.size) nm x0 x1 x2 x3 x4 x5 x6 x7 x8 A' n' cap' C' w g5 ov) (tl_rSym_up (zNew c.heap.size) nm x0 x1 x2 x3 x4 x5 x6 x7 x8 A' n' cap' C' w g5 ov) rfl (by kernel_rfl) ?_) ?_
      · intro b V a w' ha hB hF hon
        refine ⟨_, rfl, rfl, fun K hK => ?_⟩
        have e32 := told_get 15 (tl_rSym_ok (zNew c.heap.size) nm x0 x1 x2 x3 x4 x5 x6 x7 x8 A' n' cap' C' w g5 ov) rfl ha (hon 15 (by kernel_rfl)) (by kernel_rfl)
        have F32 : V 15 = .pointer (some ⟨g5, 10, none⟩) := told_fact 15 hF rfl (hon 15 (by kernel_rfl))
        rw [F32] at e32
        have hg := HX.out.on hB
        have y10 := hg.c 10 rfl
        clear hg
        refine value_ (w1 := w') (v := .slice A' n' cap') rfl rfl ?_ (hK _ _ (Below.refl _ _) rfl)
        clear ha hF hon hK K
        go_simp
        all_goals first | rfl | (constructor <;> rfl)
      refine steps_cons (toldG_step 17 (tl_rSym_ok (zNew c.heap.size) nm x0 x1 x2 x3 x4 x5 x6 x7 x8 A' n' cap' C' w g5 ov) (tl_rSym_up (zNew c.heap.size) nm x0 x1 x2 x3 x4 x5 x6 x7 x8 A' n' cap' C' w g5 ov) rfl (by kernel_rfl) ?_) ?_
      · intro b V a w' ha hB hF hon
        refine ⟨_, rfl, rfl, fun K hK => ?_⟩
        have e33 := told_get 16 (tl_rSym_ok (zNew c.heap.size) nm x0 x1 x2 x3 x4 x5 x6 x7 x8 A' n' cap' C' w g5 ov) rfl ha (hon 16 (by kernel_rfl)) (by kernel_rfl)
        have F33 : V 16 = .slice A' n' cap' := told_fact 16 hF rfl (hon 16 (by kernel_rfl))
        rw [F33] at e33
        refine goes_ Tryz.func41 (by kernel_rfl) rfl #[.slice A' n' cap'] rfl rfl rfl (by simp only [List.map_toArray, List.map_cons, List.map_nil, Act.eval, Array.getD_eq_getD_getElem?, e33, Option.getD_some]) ?_
        refine ((HC.out w' (HBw.out.trans (hB.mono HBw.out.size))).mono (fun _ _ h => h.mk hB.size)).mono ?_
        rintro e w'' ⟨v, rfl, hv, hb⟩
        exact ⟨v, rfl, hK v w'' hb hv⟩
      refine steps_cons (toldG_step 18 (tl_rSym_ok (zNew c.heap.size) nm x0 x1 x2 x3 x4 x5 x6 x7 x8 A' n' cap' C' w g5 ov) (tl_rSym_up (zNew c.heap.size) nm x0 x1 x2 x3 x4 x5 x6 x7 x8 A' n' cap' C' w g5 ov) rfl (by kernel_rfl) ?_) ?_
      · intro b V a w' ha hB hF hon
        refine ⟨_, rfl, rfl, fun K hK => ?_⟩
        have e22 := told_get 5 (tl_rSym_ok (zNew c.heap.size) nm x0 x1 x2 x3 x4 x5 x6 x7 x8 A' n' cap' C' w g5 ov) rfl ha (hon 5 (by kernel_rfl)) (by kernel_rfl)
        have F22 := told_fact 5 hF rfl (hon 5 (by kernel_rfl))
        obtain ⟨k_22, i_22, x_22, A_22, n_22, c_22, B_22, m_22, d_22, hv22⟩ := VAL.shape F22
        rw [hv22] at e22 F22
        have e25 := told_get 8 (tl_rSym_ok (zNew c.heap.size) nm x0 x1 x2 x3 x4 x5 x6 x7 x8 A' n' cap' C' w g5 ov) rfl ha (hon 8 (by kernel_rfl)) (by kernel_rfl)
        have F25 := told_fact 8 hF rfl (hon 8 (by kernel_rfl))
        obtain ⟨k_25, i_25, x_25, A_25, n_25, c_25, B_25, m_25, d_25, hv25⟩ := VAL.shape F25
        rw [hv25] at e25 F25
        have e28 := told_get 11 (tl_rSym_ok (zNew c.heap.size) nm x0 x1 x2 x3 x4 x5 x6 x7 x8 A' n' cap' C' w g5 ov) rfl ha (hon 11 (by kernel_rfl)) (by kernel_rfl)
        have F28 := told_fact 11 hF rfl (hon 11 (by kernel_rfl))
        obtain ⟨k_28, i_28, x_28, A_28, n_28, c_28, B_28, m_28, d_28, hv28⟩ := VAL.shape F28
        rw [hv28] at e28 F28
        have e31 := told_get 14 (tl_rSym_ok (zNew c.heap.size) nm x0 x1 x2 x3 x4 x5 x6 x7 x8 A' n' cap' C' w g5 ov) rfl ha (hon 14 (by kernel_rfl)) (by kernel_rfl)
        have F31 := told_fact 14 hF rfl (hon 14 (by kernel_rfl))
        obtain ⟨k_31, i_31, x_31, A_31, n_31, c_31, B_31, m_31, d_31, hv31⟩ := VAL.shape F31
        rw [hv31] at e31 F31
        have e34 := told_get 17 (tl_rSym_ok (zNew c.heap.size) nm x0 x1 x2 x3 x4 x5 x6 x7 x8 A' n' cap' C' w g5 ov) rfl ha (hon 17 (by kernel_rfl)) (by kernel_rfl)
        have F34 := told_fact 17 hF rfl (hon 17 (by kernel_rfl))
        obtain ⟨k_34, i_34, x_34, A_34, n_34, c_34, B_34, m_34, d_34, hv34⟩ := VAL.shape F34
        rw [hv34] at e34 F34
        refine value_ (w1 := w'.alloc (.cells #[.int .i64 k_22, .bool i_22, .string x_22, .slice A_22 n_22 c_22, .slice B_22 m_22 d_22, .int .i64 k_25, .bool i_25, .string x_25, .slice A_25 n_25 c_25, .slice B_25 m_25 d_25, .int .i64 k_28, .bool i_28, .string x_28, .slice A_28 n_28 c_28, .slice B_28 m_28 d_28, .int .i64 k_31, .bool i_31, .string x_31, .slice A_31 n_31 c_31, .slice B_31 m_31 d_31, .int .i64 k_34, .bool i_34, .string x_34, .slice A_34 n_34 c_34, .slice B_34 m_34 d_34] 30)) (v := .slice (some ⟨w'.heap.size, 0, none⟩) 5 5) rfl rfl ?_ (hK _ _ ((Below.refl _ _).alloc (Nat.le_refl _) _) (VSV_new _ _ _ _ _ (VR.cons F22 (VR.cons F25 (VR.cons F28 (VR.cons F31 (VR.cons F34 (VR.none _ _)))))) (zNew_alloc hB.size)))
        clear ha hF hon hK K
        go_simp
        all_goals first | rfl | (constructor <;> rfl)
      refine steps_cons (toldG_step 19 (tl_rSym_ok (zNew c.heap.size) nm x0 x1 x2 x3 x4 x5 x6 x7 x8 A' n' cap' C' w g5 ov) (tl_rSym_up (zNew c.heap.size) nm x0 x1 x2 x3 x4 x5 x6 x7 x8 A' n' cap' C' w g5 ov) rfl (by kernel_rfl) ?_) ?_
      · intro b V a w' ha hB hF hon
        refine ⟨_, rfl, rfl, fun K hK => ?_⟩
        have e19 := told_get 2 (tl_rSym_ok (zNew c.heap.size) nm x0 x1 x2 x3 x4 x5 x6 x7 x8 A' n' cap' C' w g5 ov) rfl ha (hon 2 (by kernel_rfl)) (by kernel_rfl)
        have F19 := told_fact 2 hF rfl (hon 2 (by kernel_rfl))
        have e35 := told_get 18 (tl_rSym_ok (zNew c.heap.size) nm x0 x1 x2 x3 x4 x5 x6 x7 x8 A' n' cap' C' w g5 ov) rfl ha (hon 18 (by kernel_rfl)) (by kernel_rfl)
        have F35 := told_fact 18 hF rfl (hon 18 (by kernel_rfl))
        refine goes_ Tryz.func84 (by kernel_rfl) rfl #[V 2, V 18] rfl rfl rfl (by simp only [List.map_toArray, List.map_cons, List.map_nil, Act.eval, Array.getD_eq_getD_getElem?, e19, e35, Option.getD_some]) ?_
        refine ((rObject_any w' (zNew c.heap.size) _ _ F19 F35 rfl HSB.out).mono (fun _ _ h => h.mk hB.size)).mono ?_
        rintro e w'' ⟨v, rfl, hv, hb⟩
        exact ⟨v, rfl, hK v w'' hb hv⟩
      refine steps_cons (toldG_step 20 (tl_rSym_ok (zNew c.heap.size) nm x0 x1 x2 x3 x4 x5 x6 x7 x8 A' n' cap' C' w g5 ov) (tl_rSym_up (zNew c.heap.size) nm x0 x1 x2 x3 x4 x5 x6 x7 x8 A' n' cap' C' w g5 ov) rfl (by kernel_rfl) ?_) ?_
      · intro b V a w' ha hB hF hon
        refine ⟨_, rfl, rfl, fun K hK => ?_⟩
        have e36 := told_get 19 (tl_rSym_ok (zNew c.heap.size) nm x0 x1 x2 x3 x4 x5 x6 x7 x8 A' n' cap' C' w g5 ov) rfl ha (hon 19 (by kernel_rfl)) (by kernel_rfl)
        have F36 := told_fact 19 hF rfl (hon 19 (by kernel_rfl))
        obtain ⟨k_36, i_36, x_36, A_36, n_36, c_36, B_36, m_36, d_36, hv36⟩ := VAL.shape F36
        rw [hv36] at e36 F36
        refine value_ (w1 := w'.alloc (.cells #[.int .i64 k_36, .bool i_36, .string x_36, .slice A_36 n_36 c_36, .slice B_36 m_36 d_36] 30)) (v := .slice (some ⟨w'.heap.size, 0, none⟩) 1 1) rfl rfl ?_ (hK _ _ ((Below.refl _ _).alloc (Nat.le_refl _) _) (VSV_new _ _ _ _ _ (VR.cons F36 (VR.none _ _)) (zNew_alloc hB.size)))
        clear ha hF hon hK K
        go_simp
        all_goals first | rfl | (constructor <;> rfl)
      refine steps_cons (after_app ?_ (by kernel_rfl) (by kernel_rfl) (by kernel_rfl) ?_) ?_
      · intro e he; simp only [tl_rSym, List.mem_cons, List.mem_nil_iff, or_false] at he; rcases he with rfl | rfl | rfl | rfl | rfl | rfl | rfl | rfl | rfl | rfl | rfl | rfl | rfl | rfl | rfl | rfl | rfl | rfl | rfl | rfl | rfl <;> kernel_rfl
      · intro V a w' ha hB hF
        refine ⟨_, rfl, fun K hK => ?_⟩
        have e18 := told_get 1 (tl_rSym_ok (zNew c.heap.size) nm x0 x1 x2 x3 x4 x5 x6 x7 x8 A' n' cap' C' w g5 ov) rfl ha rfl (by kernel_rfl)
        have F18 : V 1 = ov := hF _ (List.mem_of_getElem? (i := 1) rfl)
        rw [F18] at e18
        have e37 := told_get 20 (tl_rSym_ok (zNew c.heap.size) nm x0 x1 x2 x3 x4 x5 x6 x7 x8 A' n' cap' C' w g5 ov) rfl ha rfl (by kernel_rfl)
        have F37 := hF _ (List.mem_of_getElem? (i := 20) rfl)
        obtain ⟨qb, qo, qc, v0, v1, v2, v3, v4, hvx, hqz, hc5, hvt⟩ := VSV.single F37
        rw [hvx] at e37
        have HMw := Lib.hid (HM.out.on hB)
        have HOw := Lib.hid (HO.out.on hB)
        refine step_append_lies _ rfl (.tmp 18) (.tmp 37) 28 rfl (w.heap.size + 2) 30 i0 _ 5 80 Tryz.underlying28 HI0.out HZ0.out HZ1.out HZ2.out rfl (by omega) ov p xs (by simp only [Act.eval, Array.getD_eq_getD_getElem?, e18, Option.getD_some]) HMw.out.own ⟨qb, qo, none⟩ 1 qc [v0, v1, v2, v3, v4] (by simp only [Act.eval, Array.getD_eq_getD_getElem?, e37, Option.getD_some]) rfl hc5.news hvt.one (by omega)
          (by unfold maxLen; omega) (by omega) HMw.out.size _ rfl ?_
        intro g ncap w5 hown hgrow hat hlt5
        have hv' : VAL w' (fun b => w.heap.size + 2 ≤ b ∧ b < w'.heap.size ∧ (ov).ownBlock ≠ some b) ((fun j => (kids j).tree) p) (.agg #[v0, v1, v2, v3, v4]) := by
          refine Eq.mpr (congrArg (fun t => VAL w' _ t (.agg #[v0, v1, v2, v3, v4])) HT.out) ?_
          exact hvt.mono (fun b hb => ⟨Nat.le_trans HM.out.size hb.1, hb.2, fun e => by have := (HM.out.own.lt b e).2; have := hb.1; omega⟩)
        exact hK _ _ ⟨V, _, by rw [ha]; rfl, g, ncap, _, rfl, HMw.out.grown HAT.out hv' hown hgrow hat, HOw.out.same (hgrow.block _ HOw.out.lt (own_ne HMw.out.own HAT.out.d))⟩
      refine steps_cons (after_fa (by kernel_rfl) (by kernel_rfl) (by decide) (by decide) ?_) ?_
      · rintro a w' ⟨V, v, ha, hG⟩
        refine ⟨_, rfl, fun K hK => ?_⟩
        have e3 : a.tmps[3]? = some (.pointer (some ⟨w.heap.size + 1, 0, none⟩)) := by rw [ha, put_ne (by decide)]; exact (putSel_off (by rfl)).trans rfl
        refine value_ (w1 := w') (v := .pointer (some ⟨w.heap.size + 1, 3, none⟩)) rfl rfl ?_ (hK _ _ ⟨V, v, by rw [ha]; rfl, hG⟩)
        clear ha hG hK K
        go_simp
        all_goals first | rfl | (constructor <;> rfl)
      refine steps_cons (after_st (by kernel_rfl) (by kernel_rfl) (by decide) (by decide) ?_) steps_nil
      rintro a w' ⟨V, v, ha, g, ncap, xs', rfl, hM5, hO5⟩
      refine ⟨_, rfl, fun K hK => ?_⟩
      have e39 : a.tmps[39]? = some (.pointer (some ⟨w.heap.size + 1, 3, none⟩)) := by rw [ha]; exact put_at (by rw [put_size, (putSel_size _ _ _).1]; exact Nat.le_of_ble_eq_true rfl)
      have e38 : a.tmps[38]? = some (.slice (some ⟨g, 0, none⟩) (p + 1) ncap) := by rw [ha, put_ne (by decide)]; exact put_at (by rw [(putSel_size _ _ _).1]; exact Nat.le_of_ble_eq_true rfl)
      have f3 := hO5.fr 3
      have s3 := hO5.c3
      refine skip_ (w1 := w'.setCell ⟨w.heap.size + 1, 3, none⟩ (.slice (some ⟨g, 0, none⟩) (p + 1) ncap)) rfl rfl ?_ (hK _ _ ?_)
      · clear ha hM5 hK K
        go_simp
        all_goals first | rfl | (constructor <;> rfl)
      have HM5 := Lib.hid hM5
      clear hK K hM5 hO5 f3 s3 e38 e39
      generalize (w'.setCell ⟨w.heap.size + 1, 3, none⟩ (.slice (some ⟨g, 0, none⟩) (p + 1) ncap)) = w6 at *
      rw [ha]
      clear ha
      simp only [tl_rSym, Tolds.put, List.map_cons, List.map_nil, putSel, if_true, Act.put, List.setIfInBounds_toArray, List.set_cons_zero, List.set_cons_succ]
      generalize V 0 = u0
      generalize V 1 = u1
      generalize V 2 = u2
      generalize V 3 = u3
      generalize V 4 = u4
      generalize V 5 = u5
      generalize V 6 = u6
      generalize V 7 = u7
      generalize V 8 = u8
      generalize V 9 = u9
      generalize V 10 = u10
      generalize V 11 = u11
      generalize V 12 = u12
      generalize V 13 = u13
      generalize V 14 = u14
      generalize V 15 = u15
      generalize V 16 = u16
      generalize V 17 = u17
      generalize V 18 = u18
      generalize V 19 = u19
      generalize V 20 = u20
      try clear V
      go_wp2
      go_roundg (gk - 1)
      case measure => have := HP.out; omega
      case rel => exact ⟨p + 1, _, _, by have := HP.out; omega, by go_num, HM5.out⟩
    · have hd1 : decide (p < n) = false := by simp; omega
      have hd2 : decide ((p : Int) < (n : Int)) = false := by simp; omega
      have hpn : p = n := by have := HP.out; omega
      subst hpn
      obtain ⟨OA, ocap, hov, hVV⟩ := HM.out.val
      subst hov
      have HVV := Lib.hid hVV
      have hg := HM.out.out
      have y0 := hg.c0
      have y1 := hg.c1
      have y2 := hg.c2
      have y3 := hg.c3
      have y4 := hg.c4
      have hz := HM.out.res
      have z0 := hz.c0
      have z1 := hz.c1
      have z2 := hz.c2
      have z3 := hz.c3
      have z4 := hz.c4
      have f0 := hz.fr 0
      have f1 := hz.fr 1
      have f2 := hz.fr 2
      have f3 := hz.fr 3
      have f4 := hz.fr 4
      have hres := hz.put (.int .i64 4) (.bool false) (.string ⟨#[]⟩) (.slice OA p ocap) (.slice none 0 0)
      have r0 := hres.c0
      have r1 := hres.c1
      have r2 := hres.c2
      have r3 := hres.c3
      have r4 := hres.c4
      clear hres hg hz hVV hlt
      go_wp2
      refine bodyPost_ret (v := .agg #[.int .i64 4, .bool false, .string ⟨#[]⟩, .slice OA p ocap, .slice none 0 0]) (by simp [results, Tryz.results41, go_sem, r0, r1, r2, r3, r4]) rfl ⟨_, rfl, ?_, five_below HM.out.below w.heap.size _ _ _ _ _ (Nat.le_refl _)⟩
      exact five_New (w := w) (u0 := .int .i64 4) (u1 := .bool false) (u2 := .string ⟨#[]⟩) (u3 := .slice OA p ocap) (u4 := .slice none 0 0) (g := w.heap.size) HVV.out (fun b hb => ⟨by have := hb.1; omega, hb.2, by have := hb.1; omega⟩)

theorem rSym (t : SY) : Rsym t := by
  induction t with
  | leaf => intro B W A cap hr hbk; exact rSymbols_of B 0 _ W A cap (by omega) hr hbk (fun j hj => by omega)
  | mk nm k a b c d e f g h n kids ih => intro B W A cap hr hbk; exact rSymbols_of B n kids W A cap (by have := lsF_n n (fun j => (kids j).tree); have : (lsF n fun j => (kids j).tree).bulk ≤ 1073741824 := hbk; omega) hr hbk (fun j _ => ih j)
theorem rSymbols (B n : Nat) (kids : Nat → SY) (w : World) (A : Option Addr) (cap : Nat) (hr : SYA B A n kids w) (hbk : (lsF n fun j => (kids j).tree).bulk ≤ 1073741824) : Calls Tryz.prog 41 #[.slice A n cap] w (Copied (lsF n fun j => (kids j).tree) w) :=
  rSymbols_of B n kids w A cap (by have := lsF_n n (fun j => (kids j).tree); omega) hr hbk (fun j _ => rSym _)
/-- how deep symbols stand: some answer, nothing that was is touched -/
def Dsym (t : SY) : Prop := ∀ (B : Nat) (W : World) (A : Option Addr) (cap : Nat) (m : Int), SYA B A t.n t.kids W → t.n ≤ 1073741824 → I64 m → Calls Tryz.prog 39 #[.slice A t.n cap, .int .i64 m] W fun e W' => (∃ b, e = .returned (.bool b)) ∧ Below W.heap.size W W'
def SY.small : SY → Prop
  | .leaf => True
  | .mk _ _ _ _ _ _ _ _ _ _ n kids => n ≤ 1073741824 ∧ ∀ j, j < n → (kids j).small
set_option maxRecDepth 100000 in
set_option maxHeartbeats 4000000 in
theorem deep_of (B n : Nat) (kids : Nat → SY) (w : World) (A : Option Addr) (cap : Nat) (m : Int) (hl : n ≤ 1073741824) (hm : I64 m) (hr : SYA B A n kids w) (hn : ∀ j, j < n → (kids j).n ≤ 1073741824) (ih : ∀ j, j < n → Dsym (kids j)) :
    Calls Tryz.prog 39 #[.slice A n cap, .int .i64 m] w fun e w' => (∃ b, e = .returned (.bool b)) ∧ Below w.heap.size w w' := by
  have Hhr := Lib.hid hr
  have Hih := Lib.hid ih
  have Hhn := Lib.hid hn
  have Hm := Lib.hid hm
  clear hr ih hm hn
  by_cases hneg : m < 0
  · have h0 : decide (m < 0) = true := by simp; omega
    go_enter Tryz.func39, Tryz.ntmps39
    go_wp2
    go_ret
    exact ⟨⟨_, rfl⟩, Below.refl _ _⟩
  · have h0 : decide (m < 0) = false := by simp; omega
    have hw : IntKind.i64.wrap (m - 1) = m - 1 := by have h1 := Hm.out.1; have h2 := Hm.out.2; rw [IntKind.wrap_i64]; omega
    go_enter Tryz.func39, Tryz.ntmps39
    go_wp2_with fail
    go_loopg [5] n (fun q v wr => ∃ p : Nat, p + q = n ∧ v = .int .i64 p ∧ Aside (Below w.heap.size w wr))
    case atStart => exact ⟨0, by omega, rfl, Below.refl _ _⟩
    case round =>
      obtain ⟨p, hp, rfl, hB⟩ := hrel
      have HP := Lib.hid hp
      have HB := Lib.hid hB.out
      clear hp hB
      by_cases hlt : p < n
      · have hd0 : decide ((p : Int) < (n : Int)) = true := by simp; omega
        have hd1 : decide (p < n) = true := by simp; omega
        have i1 : (0 : Int) ≤ p := by omega
        have i2 : (p : Int) < n := by omega
        rcases Hhr.out.row with h0 | ⟨bl, off, rfl, hbl, hc⟩
        · omega
        obtain ⟨ds, hds, hsv⟩ := hc p hlt
        have hcall := Hih.out p hlt
        have hkn := Hhn.out p hlt
        obtain ⟨nm, x0, x1, x2, x3, x4, x5, x6, x7, x8, n', kids', hkp⟩ := SYV.root hsv
        rw [hkp] at hsv hcall hkn
        obtain ⟨A', cap', rfl, hq, hrow⟩ := hsv
        have k10 : wr.cell? ⟨bl, off + p * 11 + 10, none⟩ = some (.slice A' n' cap') := (HB.out.cell (p := ⟨bl, off + p * 11 + 10, none⟩) (Nat.lt_of_lt_of_le hbl Hhr.out.le)).trans (hds 10 _ rfl)
        have HC : Hid (∀ W, Below w.heap.size w W → Calls Tryz.prog 39 #[.slice A' n' cap', .int .i64 (m - 1)] W fun e W' => (∃ b, e = .returned (.bool b)) ∧ Below W.heap.size W W') := Lib.hid (fun W hW => hcall B W A' cap' (m - 1) ⟨Nat.le_trans Hhr.out.le hW.size, SYS.on hrow (fun b hb => Nat.lt_of_lt_of_le hb Hhr.out.le) hW⟩ hkn (by have h1 := Hm.out.1; have h2 := Hm.out.2; exact ⟨by omega, by omega⟩))
        clear hds hc hcall hrow hlt hkp hq hkn
        go_wp2_with fail
        refine (HC.out wr HB.out).mono ?_
        rintro e w2 ⟨⟨b, rfl⟩, hb⟩
        have HB2 := Lib.hid (HB.out.trans (hb.mono HB.out.size))
        clear hb k10
        cases b
        · go_wp2
          go_roundg (gk - 1)
          case measure => have := HP.out; omega
          case rel => exact ⟨p + 1, by have := HP.out; omega, by go_num, HB2.out⟩
        · go_wp2
          go_ret
          exact ⟨⟨_, rfl⟩, HB2.out⟩
      · have hd1 : decide (p < n) = false := by simp; omega
        have hd2 : decide ((p : Int) < (n : Int)) = false := by simp; omega
        go_wp2
        go_ret
        exact ⟨⟨_, rfl⟩, HB.out⟩
theorem deepS (t : SY) : t.small → Dsym t := by
  induction t with
  | leaf => intro _ B W A cap m hr hl hm; exact deep_of B 0 _ W A cap m (by omega) hm hr (fun j hj => by omega) (fun j hj => by omega)
  | mk nm k a b c d e f g h n kids ih =>
    intro hs B W A cap m hr hl hm
    exact deep_of B n kids W A cap m hs.1 hm hr (fun j hj => by
      have := hs.2 j hj
      cases hk : kids j with
      | leaf => exact Nat.zero_le _
      | mk nm k a b c d e f g h n kids => rw [hk] at this; exact this.1) (fun j hj => ih j (hs.2 j hj))
end Go.Proofs.YthndgekjccclnaaGreatDoor
