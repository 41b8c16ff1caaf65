/-
  Layer 28, the walks: Done.
-/
import Derived.Test.YtfploakafbnigaaGreatDoorCPoolLay
namespace Go.Proofs.YtfploakafbnigaaGreatDoor
open Go.RowKit Val Pl YtfploakafbnigaaGreatDoorW.PrintLast
set_option linter.unusedVariables false
set_option linter.unusedSimpArgs false
def doneV_i : Option (Job Int) → Value
  | none => .tuple #[.int .i64 0, .bool false, .bool false, .int .i64 0]
  | some j => .tuple #[(Value.int .i64) j.x, .bool j.can, .bool true, .int .i64 0]
set_option maxRecDepth 100000 in
set_option maxHeartbeats 4000000 in
theorem Done_i {B : Nat} {s : Pst Int} {h : PH} (k : Nat) (m : Int) (w : World) (p : PMi B s h w) (hm : m = (k : Int)) (hk : k < s.us.length) : Calls Tryz.prog 45 #[.pointer (some ⟨h.pb, 0, none⟩), .int .i64 m] w (PO (Value.int .i64) 132 86 136 B ((s.done k).2) h (doneV_i (s.done k).1) w) := by
  subst hm
  have HP := Lib.hid p
  have hkj : k < h.js.length := by rw [← p.len]; exact hk
  have h4 := p.many.2
  obtain ⟨u, hu⟩ : ∃ u, s.us[k]? = some u := ⟨_, List.getElem?_eq_getElem hk⟩
  obtain ⟨o, ho⟩ : ∃ o, h.js[k]? = some o := ⟨_, List.getElem?_eq_getElem hkj⟩
  have hU := p.us k
  rw [hu, ho] at hU
  have c1 := p.box.c 1 rfl
  have hx : w.cell? ⟨h.wb, k, none⟩ = some (pv o) := p.ws.c k (by simp [ho])
  have hf : w.frozen? ⟨h.wb, k, none⟩ = false := p.ws.fr k
  have HWK := Lib.hid (show Calls Tryz.prog 108 #[.pointer (some ⟨h.pb, 0, none⟩), .int .i64 (k : Int)] w fun e w' => e = .returned (.int .i64 0) ∧ w = w' by
    have := worker_i (k : Int) w p
    rw [if_pos ⟨by omega, by omega⟩] at this
    exact this)
  have i1 : (0 : Int) ≤ (k : Int) := by omega
  have i2 : (k : Int) < (h.js.length : Int) := by omega
  have HKJ := Lib.hid hkj
  have HK := Lib.hid ho
  clear p hk
  cases u with
  | none =>
    obtain rfl : o = none := by cases o with
      | none => rfl
      | some b => exact hU.elim
    have e1 : s.done k = (none, s) := by unfold Pst.done; rw [hu]
    rw [e1]
    dsimp only [doneV_i]
    have hx' : w.cell? ⟨h.wb, k, none⟩ = some (.pointer none) := hx
    clear e1 hx hU hu ho hkj hf
    generalize h.js.length = n at *
    go_enter Tryz.func45, Tryz.ntmps45
    go_wp2_with fail
    refine HWK.out.mono ?_
    rintro e w2 ⟨rfl, rfl⟩
    go_wp2
    exact bodyPost_ret (v := .tuple #[.int .i64 0, .bool false, .bool false, .int .i64 0]) (by simp [results, Tryz.results45, go_sem]) rfl (HP.out.read rfl (Below.refl _ _))
  | some j =>
    obtain ⟨b, rfl⟩ : ∃ b, o = some b := by cases o with
      | none => exact hU.elim
      | some b => exact ⟨b, rfl⟩
    have e1 : s.done k = (some j, ⟨s.q, s.us.set k none⟩) := by unfold Pst.done; rw [hu]
    rw [e1]
    dsimp only [doneV_i]
    have hx' : w.cell? ⟨h.wb, k, none⟩ = some (.pointer (some ⟨b, 0, none⟩)) := hx
    have hbj : BK w b 132 (jc (Value.int .i64) j).toArray := hU
    have hbw : b ≠ h.wb := (HP.out.jf b (List.mem_iff_getElem?.2 ⟨k, ho⟩)).2.1
    have HJ := Lib.hid (hbj.far (p := ⟨h.wb, k, none⟩) (.pointer none) hbw)
    clear e1 hx hU hu ho hkj hbj hbw
    generalize h.js.length = n at c1 i2
    go_enter Tryz.func45, Tryz.ntmps45
    go_wp2_with fail
    refine HWK.out.mono ?_
    rintro e w2 ⟨rfl, rfl⟩
    go_upto_region 8 with (fail)
    obtain ⟨hp1, hp2, hp3⟩ := HP.out.worker (k := k) HKJ.out none none trivial (fun j e => by cases e) (fun g e => by cases e)
    have HP1 := Lib.hid hp1
    have HM : Hid (Mv h.S _ w _) := Lib.hid ((Mv.of (Below.refl _ w) : Mv h.S h.S w w).store (pv none) (a := ⟨h.wb, k, none⟩) (.inr (.inl rfl)) (S2 := ({ h with js := h.js.set k none } : PH).S) (fun b' hb' => by
      rcases hp3 b' hb' with h1 | h1
      · exact .inl h1
      · cases h1))
    clear hp1 hp2 hp3 hf hx' c1
    change Hid (PMi B ⟨s.q, s.us.set k none⟩ { h with js := h.js.set k none } (w.setCell ⟨h.wb, k, none⟩ (.pointer none))) at HP1
    change Hid (Mv h.S ({ h with js := h.js.set k none } : PH).S w (w.setCell ⟨h.wb, k, none⟩ (.pointer none))) at HM
    obtain ⟨w1, hw1⟩ : ∃ x, x = w.setCell ⟨h.wb, k, none⟩ (.pointer none) := ⟨_, rfl⟩
    rw [← hw1] at HP1 HM HJ ⊢
    clear hw1
    have x3 : w1.cell? ⟨b, 7, none⟩ = some ((Value.int .i64) j.x) := HJ.out.c 7 rfl
    have x4 : w1.cell? ⟨b, 8, none⟩ = some (.bool j.can) := HJ.out.c 8 rfl
    go_quiet (fail)
    go_wp2
    exact bodyPost_ret (v := .tuple #[(Value.int .i64) j.x, .bool j.can, .bool true, .int .i64 0]) (by simp [results, Tryz.results45, go_sem]) rfl ⟨{ h with js := h.js.set k none }, rfl, rfl, HP1.out.on (drewN_below _ _), HM.out.trans (Mv.of (drewN_below _ _))⟩
def doneV_s : Option (Job ByteArray) → Value
  | none => .tuple #[.string ⟨#[]⟩, .bool false, .bool false, .int .i64 0]
  | some j => .tuple #[Value.string j.x, .bool j.can, .bool true, .int .i64 0]
set_option maxRecDepth 100000 in
set_option maxHeartbeats 4000000 in
theorem Done_s {B : Nat} {s : Pst ByteArray} {h : PH} (k : Nat) (m : Int) (w : World) (p : PMs B s h w) (hm : m = (k : Int)) (hk : k < s.us.length) : Calls Tryz.prog 119 #[.pointer (some ⟨h.pb, 0, none⟩), .int .i64 m] w (PO Value.string 203 200 204 B ((s.done k).2) h (doneV_s (s.done k).1) w) := by
  subst hm
  have HP := Lib.hid p
  have hkj : k < h.js.length := by rw [← p.len]; exact hk
  have h4 := p.many.2
  obtain ⟨u, hu⟩ : ∃ u, s.us[k]? = some u := ⟨_, List.getElem?_eq_getElem hk⟩
  obtain ⟨o, ho⟩ : ∃ o, h.js[k]? = some o := ⟨_, List.getElem?_eq_getElem hkj⟩
  have hU := p.us k
  rw [hu, ho] at hU
  have c1 := p.box.c 1 rfl
  have hx : w.cell? ⟨h.wb, k, none⟩ = some (pv o) := p.ws.c k (by simp [ho])
  have hf : w.frozen? ⟨h.wb, k, none⟩ = false := p.ws.fr k
  have HWK := Lib.hid (show Calls Tryz.prog 164 #[.pointer (some ⟨h.pb, 0, none⟩), .int .i64 (k : Int)] w fun e w' => e = .returned (.int .i64 0) ∧ w = w' by
    have := worker_s (k : Int) w p
    rw [if_pos ⟨by omega, by omega⟩] at this
    exact this)
  have i1 : (0 : Int) ≤ (k : Int) := by omega
  have i2 : (k : Int) < (h.js.length : Int) := by omega
  have HKJ := Lib.hid hkj
  have HK := Lib.hid ho
  clear p hk
  cases u with
  | none =>
    obtain rfl : o = none := by cases o with
      | none => rfl
      | some b => exact hU.elim
    have e1 : s.done k = (none, s) := by unfold Pst.done; rw [hu]
    rw [e1]
    dsimp only [doneV_s]
    have hx' : w.cell? ⟨h.wb, k, none⟩ = some (.pointer none) := hx
    clear e1 hx hU hu ho hkj hf
    generalize h.js.length = n at *
    go_enter Tryz.func119, Tryz.ntmps119
    go_wp2_with fail
    refine HWK.out.mono ?_
    rintro e w2 ⟨rfl, rfl⟩
    go_wp2
    exact bodyPost_ret (v := .tuple #[.string ⟨#[]⟩, .bool false, .bool false, .int .i64 0]) (by simp [results, Tryz.results119, go_sem]) rfl (HP.out.read rfl (Below.refl _ _))
  | some j =>
    obtain ⟨b, rfl⟩ : ∃ b, o = some b := by cases o with
      | none => exact hU.elim
      | some b => exact ⟨b, rfl⟩
    have e1 : s.done k = (some j, ⟨s.q, s.us.set k none⟩) := by unfold Pst.done; rw [hu]
    rw [e1]
    dsimp only [doneV_s]
    have hx' : w.cell? ⟨h.wb, k, none⟩ = some (.pointer (some ⟨b, 0, none⟩)) := hx
    have hbj : BK w b 203 (jc Value.string j).toArray := hU
    have hbw : b ≠ h.wb := (HP.out.jf b (List.mem_iff_getElem?.2 ⟨k, ho⟩)).2.1
    have HJ := Lib.hid (hbj.far (p := ⟨h.wb, k, none⟩) (.pointer none) hbw)
    clear e1 hx hU hu ho hkj hbj hbw
    generalize h.js.length = n at c1 i2
    go_enter Tryz.func119, Tryz.ntmps119
    go_wp2_with fail
    refine HWK.out.mono ?_
    rintro e w2 ⟨rfl, rfl⟩
    go_upto_region 8 with (fail)
    obtain ⟨hp1, hp2, hp3⟩ := HP.out.worker (k := k) HKJ.out none none trivial (fun j e => by cases e) (fun g e => by cases e)
    have HP1 := Lib.hid hp1
    have HM : Hid (Mv h.S _ w _) := Lib.hid ((Mv.of (Below.refl _ w) : Mv h.S h.S w w).store (pv none) (a := ⟨h.wb, k, none⟩) (.inr (.inl rfl)) (S2 := ({ h with js := h.js.set k none } : PH).S) (fun b' hb' => by
      rcases hp3 b' hb' with h1 | h1
      · exact .inl h1
      · cases h1))
    clear hp1 hp2 hp3 hf hx' c1
    change Hid (PMs B ⟨s.q, s.us.set k none⟩ { h with js := h.js.set k none } (w.setCell ⟨h.wb, k, none⟩ (.pointer none))) at HP1
    change Hid (Mv h.S ({ h with js := h.js.set k none } : PH).S w (w.setCell ⟨h.wb, k, none⟩ (.pointer none))) at HM
    obtain ⟨w1, hw1⟩ : ∃ x, x = w.setCell ⟨h.wb, k, none⟩ (.pointer none) := ⟨_, rfl⟩
    rw [← hw1] at HP1 HM HJ ⊢
    clear hw1
    have x3 : w1.cell? ⟨b, 7, none⟩ = some (Value.string j.x) := HJ.out.c 7 rfl
    have x4 : w1.cell? ⟨b, 8, none⟩ = some (.bool j.can) := HJ.out.c 8 rfl
    go_quiet (fail)
    go_wp2
    exact bodyPost_ret (v := .tuple #[Value.string j.x, .bool j.can, .bool true, .int .i64 0]) (by simp [results, Tryz.results119, go_sem]) rfl ⟨{ h with js := h.js.set k none }, rfl, rfl, HP1.out.on (drewN_below _ _), HM.out.trans (Mv.of (drewN_below _ _))⟩
end Go.Proofs.YtfploakafbnigaaGreatDoor
