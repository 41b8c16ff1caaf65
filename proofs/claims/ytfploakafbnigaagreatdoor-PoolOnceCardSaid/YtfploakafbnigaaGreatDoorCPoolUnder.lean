/-
  Layer 28, the walks: the workers' row.
-/
import Derived.Test.YtfploakafbnigaaGreatDoorCPoolRead
import Derived.Deep.QuietTactic
import Derived.BigQuiet
namespace Go.Proofs.YtfploakafbnigaaGreatDoor
open Go.RowKit Val Pl YtfploakafbnigaaGreatDoorW.PrintLast
set_option linter.unusedVariables false
set_option linter.unusedSimpArgs false
theorem drewN_below (w : World) (n : Nat) : Below w.heap.size w (w.drewN n) := ⟨rfl, rfl, rfl, Nat.le_refl _, fun _ _ => rfl⟩
set_option maxRecDepth 100000 in
set_option maxHeartbeats 4000000 in
theorem uclo0_i (i : LId) (g : Nat) (w : World) : Calls Tryz.prog 159 #[.pointer none, .pointer (some ⟨g, 0, none⟩)] w (Made (.bool false) w) := by
  go_enter Tryz.func159, Tryz.ntmps159
  go_wp2_with fail
  go_quiet (fail)
  go_wp2
  go_ret
  exact ⟨rfl, drewN_below _ _⟩
set_option maxRecDepth 100000 in
set_option maxHeartbeats 4000000 in
theorem uclo_i (j : Job Int) (i : LId) (b g : Nat) (w : World) (hj : okj j) (hi : LId.ok i) (hM : ML w) (hg : BK w g 25 (LId.cells i).toArray) (hb : BK w b 132 (jc (Value.int .i64) j).toArray) : Calls Tryz.prog 159 #[.pointer (some ⟨b, 0, none⟩), .pointer (some ⟨g, 0, none⟩)] w (Made (.bool (Pst.isJ i j)) w) := by
  have HI := Lib.hid (fun W (hb : Below w.heap.size w W) => is_i j i W hj hi (hM.on hb))
  have HG := Lib.hid hg
  have HJ := Lib.hid hb
  generalize Pst.isJ i j = R at *
  clear hj hi hM hg hb
  go_enter Tryz.func159, Tryz.ntmps159
  go_wp2_with fail
  refine start_ (n := 10) (S := fun W => BK W b 132 (jc (Value.int .i64) j).toArray ∧ BK W g 25 (LId.cells i).toArray) (ds := []) #[false, false, false, false, false, false, false, false, false, false] (by kernel_rfl) rfl rfl ⟨HJ.out.on (Below.refl _ _).drew, HG.out.on (Below.refl _ _).drew⟩ (fun hHeld => ?_)
  have HB1 := Lib.hid ((Below.refl w.heap.size w).drew)
  generalize w.drew = w1 at *
  refine pure_ (i := 0) (N := some 4) (v := ?_) (a' := ?_) #[true, false, false, false, false, false, false, false, false, false] rfl rfl (by kernel_rfl) (fun _ _ _ h => h) (Or.inl ⟨by rfl, ?_⟩) ?_ ?_
  rotate_left
  · intro w'; go_simp; with_reducible rfl
  rotate_left
  · simp only [Act.put, List.setIfInBounds_toArray, List.set_cons_zero, List.set_cons_succ, i64_w, i32_w]; rfl
  refine pure_ (i := 1) (N := some 5) (v := ?_) (a' := ?_) #[true, true, false, false, false, false, false, false, false, false] rfl rfl (by kernel_rfl) (fun _ _ _ h => h) (Or.inl ⟨by rfl, ?_⟩) ?_ ?_
  rotate_left
  · intro w'; go_simp; with_reducible rfl
  rotate_left
  · simp only [Act.put, List.setIfInBounds_toArray, List.set_cons_zero, List.set_cons_succ, i64_w, i32_w]; rfl
  refine pure_ (i := 2) (N := some 6) (v := ?_) (a' := ?_) #[true, true, true, false, false, false, false, false, false, false] rfl rfl (by kernel_rfl) (fun _ _ _ h => h) (Or.inl ⟨by rfl, ?_⟩) ?_ ?_
  rotate_left
  · intro w'; go_simp; with_reducible rfl
  rotate_left
  · simp only [Act.put, List.setIfInBounds_toArray, List.set_cons_zero, List.set_cons_succ, i64_w, i32_w]; rfl
  refine pure_ (i := 3) (N := some 7) (v := ?_) (a' := ?_) #[true, true, true, true, false, false, false, false, false, false] rfl rfl (by kernel_rfl) (fun _ _ _ h => h) (Or.inl ⟨by rfl, ?_⟩) ?_ ?_
  rotate_left
  · intro w'; go_simp; with_reducible rfl
  rotate_left
  · simp only [Act.put, List.setIfInBounds_toArray, List.set_cons_zero, List.set_cons_succ, i64_w, i32_w]; rfl
  refine pure_ (i := 4) (N := some 8) (v := ?_) (a' := ?_) #[true, true, true, true, true, false, false, false, false, false] rfl rfl (by kernel_rfl) (fun _ _ _ h => h) (Or.inl ⟨by rfl, ?_⟩) ?_ ?_
  rotate_left
  · intro w'; go_simp; with_reducible rfl
  rotate_left
  · simp only [Act.put, List.setIfInBounds_toArray, List.set_cons_zero, List.set_cons_succ, i64_w, i32_w]; rfl
  refine take_ (i := 5) (N := some 9) (v := ?_) (a' := ?_) #[true, true, true, true, true, true, false, false, false, false] rfl rfl (by kernel_rfl) (fun _ _ _ h => h) (Or.inl ⟨by rfl, ?_⟩) hHeld ?_ ?_
  rotate_left
  · intro w' hh; have hg := hh.1; have t0 := hg.c 0 rfl; have t1 := hg.c 1 rfl; have t2 := hg.c 2 rfl; have t3 := hg.c 3 rfl; have t4 := hg.c 4 rfl; have t5 := hg.c 5 rfl; have t6 := hg.c 6 rfl; have t7 := hg.c 7 rfl; have t8 := hg.c 8 rfl; clear hh hg; go_simp; with_reducible rfl
  rotate_left
  · simp only [Act.put, List.setIfInBounds_toArray, List.set_cons_zero, List.set_cons_succ, i64_w, i32_w]; rfl
  refine take_ (i := 6) (N := some 10) (v := ?_) (a' := ?_) #[true, true, true, true, true, true, true, false, false, false] rfl rfl (by kernel_rfl) (fun _ _ _ h => h) (Or.inl ⟨by rfl, ?_⟩) hHeld ?_ ?_
  rotate_left
  · intro w' hh; have hg := hh.2; have t0 := hg.c 0 rfl; have t1 := hg.c 1 rfl; have t2 := hg.c 2 rfl; have t3 := hg.c 3 rfl; have t4 := hg.c 4 rfl; clear hh hg; go_simp; with_reducible rfl
  rotate_left
  · simp only [Act.put, List.setIfInBounds_toArray, List.set_cons_zero, List.set_cons_succ, i64_w, i32_w]; rfl
  refine one_ (i := 7) (N := some 11) #[true, true, true, true, true, true, true, true, false, false] rfl rfl (by kernel_rfl) (by decide) (fun K hK => ?_)
  refine goes_ Tryz.func157 (by kernel_rfl) rfl #[.agg (jc (Value.int .i64) j).toArray, .agg (LId.cells i).toArray] (by rfl) rfl rfl (by (try simp only [List.map_toArray, List.map_cons, List.map_nil]); first | done | rfl) ?_
  refine (HI.out w1 HB1.out).mono ?_
  rintro e w2 ⟨rfl, hb⟩
  refine ⟨_, rfl, ?_⟩
  refine hK.out _ _ ⟨hHeld.1.on hb, hHeld.2.on hb⟩ (fun hHeld' => ?_)
  clear hK K hHeld
  have HB2 := Lib.hid (HB1.out.trans (hb.mono HB1.out.size))
  clear hb
  refine norm_ (a' := ?_) ?_ ?_
  rotate_left
  · show Act.put _ (some 11) _ = _; simp only [Act.put, List.setIfInBounds_toArray, List.set_cons_zero, List.set_cons_succ, i64_w, i32_w]; rfl
  refine pure_ (i := 8) (N := some 12) (v := ?_) (a' := ?_) #[true, true, true, true, true, true, true, true, true, false] rfl rfl (by kernel_rfl) (fun _ _ _ h => h) (Or.inl ⟨by rfl, ?_⟩) ?_ ?_
  rotate_left
  · intro w'; go_simp; with_reducible rfl
  rotate_left
  · simp only [Act.put, List.setIfInBounds_toArray, List.set_cons_zero, List.set_cons_succ, i64_w, i32_w]; rfl
  refine pure_ (i := 9) (N := some 3) (v := ?_) (a' := ?_) #[true, true, true, true, true, true, true, true, true, true] rfl rfl (by kernel_rfl) (fun _ _ _ h => h) (Or.inl ⟨by rfl, ?_⟩) ?_ ?_
  rotate_left
  · intro w'; go_simp; with_reducible rfl
  rotate_left
  · simp only [Act.put, List.setIfInBounds_toArray, List.set_cons_zero, List.set_cons_succ, i64_w, i32_w]; rfl
  refine done_ (by kernel_rfl) ?_
  go_wp2
  go_ret
  exact ⟨rfl, HB2.out⟩
set_option maxRecDepth 100000 in
set_option maxHeartbeats 4000000 in
theorem ixu_i (us : List (Option (Job Int))) (js : List (Option Nat)) (wb g : Nat) (i : LId) (w : World) (hws : BK w wb 136 (js.map pv).toArray) (hus : ∀ k : Nat, UJ (Value.int .i64) 132 w js[k]? us[k]?) (hok : ∀ j, some j ∈ us → okj j) (hlen : us.length = js.length) (h4 : js.length ≤ 4) (hi : LId.ok i) (hM : ML w) (hg : BK w g 25 (LId.cells i).toArray) :
    Calls Tryz.prog 158 #[.slice (some ⟨wb, 0, none⟩) js.length js.length, .func (.func 159) #[] #[.pointer (some ⟨g, 0, none⟩)]] w (Made (.int .i64 (ix (us.findIdx? (Pst.isU i)))) w) := by
  have HWS := Lib.hid hws
  have HUS := Lib.hid hus
  have HOK := Lib.hid hok
  have HG := Lib.hid hg
  have HI := Lib.hid hi
  have HM := Lib.hid hM
  obtain ⟨n, hn⟩ : ∃ n, js.length = n := ⟨_, rfl⟩
  have HN := Lib.hid hn
  have HL := Lib.hid hlen
  rw [hn] at h4 ⊢
  clear hws hus hok hg hi hM hn hlen
  go_enter Tryz.func158, Tryz.ntmps158
  go_wp2
  go_loopg [5, 8] n (fun gg _ s8 wr => ∃ kk : Nat, kk ≤ n ∧ n - kk ≤ gg ∧ s8 = .int .i64 kk ∧ Hid (Below w.heap.size w wr) ∧ Hid ((us.take kk).findIdx? (Pst.isU i) = none))
  case atStart => exact ⟨0, Nat.zero_le _, by omega, rfl, Lib.hid (Below.refl _ w), Lib.hid (by simp)⟩
  case round =>
    obtain ⟨kk, hkk, hgg, rfl, BW, MISS⟩ := hrel
    by_cases hlt : kk < n
    · have hltz : (kk : Int) < (n : Int) := by omega
      obtain ⟨o, ho⟩ : ∃ o, js[kk]? = some o := ⟨_, List.getElem?_eq_getElem (by rw [HN.out]; exact hlt)⟩
      obtain ⟨u, hu⟩ : ∃ u, us[kk]? = some u := ⟨_, List.getElem?_eq_getElem (by rw [HL.out, HN.out]; exact hlt)⟩
      have hUJ := HUS.out kk
      rw [ho, hu] at hUJ
      have hx : wr.cell? ⟨wb, kk, none⟩ = some (pv o) := (HWS.out.on BW.out).c kk (by simp [ho])
      have hcall : Calls Tryz.prog 159 #[pv o, .pointer (some ⟨g, 0, none⟩)] wr (Made (.bool (Pst.isU i u)) wr) := by
        match o, u, hUJ with
        | none, none, _ => exact uclo0_i i g wr
        | some b, some j, hb => exact uclo_i j i b g wr (HOK.out j (List.mem_iff_getElem?.2 ⟨kk, hu⟩)) HI.out (HM.out.on BW.out) (HG.out.on BW.out) (BK.on hb BW.out)
      have HU := Lib.hid hu
      clear hUJ ho hu
      generalize pv o = x at *
      cases hq : Pst.isU i u with
      | true =>
        rw [hq] at hcall
        have HQ := Lib.hid hq
        clear hq
        go_wp2_with (refine hcall.mono ?_; rintro e w' ⟨rfl, hb'⟩)
        go_ret
        refine ⟨?_, BW.out.trans (hb'.mono BW.out.size)⟩
        rw [find_hit HU.out HQ.out MISS.out]; rfl
      | false =>
        rw [hq] at hcall
        have HQ := Lib.hid hq
        clear hq
        go_wp2_with (refine hcall.mono ?_; rintro e w' ⟨rfl, hb'⟩)
        go_roundg (n - (kk + 1))
        case measure => omega
        case rel => exact ⟨kk + 1, by omega, by omega, by go_num, Lib.hid (BW.out.trans (hb'.mono BW.out.size)), Lib.hid (find_miss HU.out HQ.out MISS.out)⟩
    · have hltz : ¬ (kk : Int) < (n : Int) := by omega
      have : kk = n := by omega
      subst this
      go_wp2
      go_ret
      refine ⟨?_, BW.out⟩
      have := MISS.out
      rw [List.take_of_length_le (by rw [HL.out, HN.out]; exact Nat.le_refl _)] at this
      rw [this]; rfl
set_option maxRecDepth 100000 in
set_option maxHeartbeats 4000000 in
theorem under_i {B : Nat} {s : Pst Int} {h : PH} (i : LId) (w : World) (p : PMi B s h w) (hi : LId.ok i) : Calls Tryz.prog 111 #[.pointer (some ⟨h.pb, 0, none⟩), .agg (LId.cells i).toArray] w (Made (.int .i64 (ix (s.under i))) w) := by
  have c1 := p.box.c 1 rfl
  have hlt := p.box.lt
  have HX := Lib.hid (fun W g (hb : Below w.heap.size w W) (hg : BK W g 25 (LId.cells i).toArray) => ixu_i s.us h.js h.wb g i W (p.on hb).ws (p.on hb).us p.oku p.len p.many.2 hi (p.ml.on hb) hg)
  change Hid (∀ W g, Below w.heap.size w W → BK W g 25 (LId.cells i).toArray → Calls Tryz.prog 158 #[.slice (some ⟨h.wb, 0, none⟩) h.js.length h.js.length, .func (.func 159) #[] #[.pointer (some ⟨g, 0, none⟩)]] W (Made (.int .i64 (ix (s.under i))) W)) at HX
  generalize ix (s.under i) = R at *
  generalize h.js.length = n at *
  generalize h.pb = pb at *
  generalize h.wb = wb at *
  clear p hi
  unfold LId.cells at *
  go_enter Tryz.func111, Tryz.ntmps111
  go_wp2_with fail
  refine at1 (fun W hX hB hz => ?_)
  refine (HX.out W _ hB hX).mono ?_
  rintro e w2 ⟨rfl, hb⟩
  have HB := Lib.hid (hB.trans (hb.mono hB.size))
  clear hX hb hB hz
  go_wp2
  go_ret
  exact ⟨rfl, HB.out⟩
set_option maxRecDepth 100000 in
set_option maxHeartbeats 4000000 in
theorem worker_i {B : Nat} {s : Pst Int} {h : PH} (k : Int) (w : World) (p : PMi B s h w) : Calls Tryz.prog 108 #[.pointer (some ⟨h.pb, 0, none⟩), .int .i64 k] w fun e w' => e = .returned (.int .i64 (if 0 ≤ k ∧ k < h.js.length then 0 else 9)) ∧ w = w' := by
  have c1 := p.box.c 1 rfl
  have HP := Lib.hid (none_i w p)
  generalize h.js.length = n at *
  generalize h.pb = pb at *
  generalize h.wb = wb at *
  clear p
  obtain ⟨R, hR⟩ : ∃ R : Int, (if 0 ≤ k ∧ k < (n : Int) then 0 else 9) = R := ⟨_, rfl⟩
  rw [hR]
  have HR := Lib.hid hR
  clear hR
  by_cases h0 : k < 0
  · have hr : R = 9 := by rw [← HR.out, if_neg (by omega)]
    have HR9 := Lib.hid hr
    clear hr
    go_enter Tryz.func108, Tryz.ntmps108
    go_wp2_with fail
    refine HP.out.mono ?_
    rintro e w2 ⟨rfl, rfl⟩
    go_wp2
    go_ret
    exact ⟨by rw [HR9.out]; rfl, rfl⟩
  · by_cases h1 : k < n
    · have hr : R = 0 := by rw [← HR.out, if_pos (by omega)]
      have HR9 := Lib.hid hr
      clear hr
      have h2 : ¬ (n : Int) ≤ k := by omega
      go_enter Tryz.func108, Tryz.ntmps108
      go_wp2_with fail
      refine HP.out.mono ?_
      rintro e w2 ⟨rfl, rfl⟩
      go_wp2
      go_ret
      exact ⟨by rw [HR9.out]; rfl, rfl⟩
    · have hr : R = 9 := by rw [← HR.out, if_neg (by omega)]
      have HR9 := Lib.hid hr
      clear hr
      have h2 : (n : Int) ≤ k := by omega
      go_enter Tryz.func108, Tryz.ntmps108
      go_wp2_with fail
      refine HP.out.mono ?_
      rintro e w2 ⟨rfl, rfl⟩
      go_wp2
      go_ret
      exact ⟨by rw [HR9.out]; rfl, rfl⟩
set_option maxRecDepth 100000 in
set_option maxHeartbeats 4000000 in
theorem Waits_i {B : Nat} {s : Pst Int} {h : PH} (w : World) (p : PMi B s h w) : Calls Tryz.prog 48 #[.pointer (some ⟨h.pb, 0, none⟩)] w fun e w' => e = .returned (.int .i64 s.q.length) ∧ w = w' := by
  have HP := Lib.hid (none_i w p)
  obtain ⟨A, cap, hqv, -⟩ := own_row_i p.q
  have c0 := p.box.c 0 rfl
  rw [hqv] at c0
  generalize s.q.length = n at *
  generalize h.pb = pb at *
  clear p hqv
  go_enter Tryz.func48, Tryz.ntmps48
  go_wp2_with fail
  refine HP.out.mono ?_
  rintro e w2 ⟨rfl, rfl⟩
  go_wp2
  go_ret
  exact ⟨rfl, rfl⟩
set_option maxRecDepth 100000 in
set_option maxHeartbeats 4000000 in
theorem uclo0_s (i : LId) (g : Nat) (w : World) : Calls Tryz.prog 201 #[.pointer none, .pointer (some ⟨g, 0, none⟩)] w (Made (.bool false) w) := by
  go_enter Tryz.func201, Tryz.ntmps201
  go_wp2_with fail
  go_quiet (fail)
  go_wp2
  go_ret
  exact ⟨rfl, drewN_below _ _⟩
set_option maxRecDepth 100000 in
set_option maxHeartbeats 4000000 in
theorem uclo_s (j : Job ByteArray) (i : LId) (b g : Nat) (w : World) (hj : okj j) (hi : LId.ok i) (hM : ML w) (hg : BK w g 25 (LId.cells i).toArray) (hb : BK w b 203 (jc Value.string j).toArray) : Calls Tryz.prog 201 #[.pointer (some ⟨b, 0, none⟩), .pointer (some ⟨g, 0, none⟩)] w (Made (.bool (Pst.isJ i j)) w) := by
  have HI := Lib.hid (fun W (hb : Below w.heap.size w W) => is_s j i W hj hi (hM.on hb))
  have HG := Lib.hid hg
  have HJ := Lib.hid hb
  generalize Pst.isJ i j = R at *
  clear hj hi hM hg hb
  go_enter Tryz.func201, Tryz.ntmps201
  go_wp2_with fail
  refine start_ (n := 10) (S := fun W => BK W b 203 (jc Value.string j).toArray ∧ BK W g 25 (LId.cells i).toArray) (ds := []) #[false, false, false, false, false, false, false, false, false, false] (by kernel_rfl) rfl rfl ⟨HJ.out.on (Below.refl _ _).drew, HG.out.on (Below.refl _ _).drew⟩ (fun hHeld => ?_)
  have HB1 := Lib.hid ((Below.refl w.heap.size w).drew)
  generalize w.drew = w1 at *
  refine pure_ (i := 0) (N := some 4) (v := ?_) (a' := ?_) #[true, false, false, false, false, false, false, false, false, false] rfl rfl (by kernel_rfl) (fun _ _ _ h => h) (Or.inl ⟨by rfl, ?_⟩) ?_ ?_
  rotate_left
  · intro w'; go_simp; with_reducible rfl
  rotate_left
  · simp only [Act.put, List.setIfInBounds_toArray, List.set_cons_zero, List.set_cons_succ, i64_w, i32_w]; rfl
  refine pure_ (i := 1) (N := some 5) (v := ?_) (a' := ?_) #[true, true, false, false, false, false, false, false, false, false] rfl rfl (by kernel_rfl) (fun _ _ _ h => h) (Or.inl ⟨by rfl, ?_⟩) ?_ ?_
  rotate_left
  · intro w'; go_simp; with_reducible rfl
  rotate_left
  · simp only [Act.put, List.setIfInBounds_toArray, List.set_cons_zero, List.set_cons_succ, i64_w, i32_w]; rfl
  refine pure_ (i := 2) (N := some 6) (v := ?_) (a' := ?_) #[true, true, true, false, false, false, false, false, false, false] rfl rfl (by kernel_rfl) (fun _ _ _ h => h) (Or.inl ⟨by rfl, ?_⟩) ?_ ?_
  rotate_left
  · intro w'; go_simp; with_reducible rfl
  rotate_left
  · simp only [Act.put, List.setIfInBounds_toArray, List.set_cons_zero, List.set_cons_succ, i64_w, i32_w]; rfl
  refine pure_ (i := 3) (N := some 7) (v := ?_) (a' := ?_) #[true, true, true, true, false, false, false, false, false, false] rfl rfl (by kernel_rfl) (fun _ _ _ h => h) (Or.inl ⟨by rfl, ?_⟩) ?_ ?_
  rotate_left
  · intro w'; go_simp; with_reducible rfl
  rotate_left
  · simp only [Act.put, List.setIfInBounds_toArray, List.set_cons_zero, List.set_cons_succ, i64_w, i32_w]; rfl
  refine pure_ (i := 4) (N := some 8) (v := ?_) (a' := ?_) #[true, true, true, true, true, false, false, false, false, false] rfl rfl (by kernel_rfl) (fun _ _ _ h => h) (Or.inl ⟨by rfl, ?_⟩) ?_ ?_
  rotate_left
  · intro w'; go_simp; with_reducible rfl
  rotate_left
  · simp only [Act.put, List.setIfInBounds_toArray, List.set_cons_zero, List.set_cons_succ, i64_w, i32_w]; rfl
  refine take_ (i := 5) (N := some 9) (v := ?_) (a' := ?_) #[true, true, true, true, true, true, false, false, false, false] rfl rfl (by kernel_rfl) (fun _ _ _ h => h) (Or.inl ⟨by rfl, ?_⟩) hHeld ?_ ?_
  rotate_left
  · intro w' hh; have hg := hh.1; have t0 := hg.c 0 rfl; have t1 := hg.c 1 rfl; have t2 := hg.c 2 rfl; have t3 := hg.c 3 rfl; have t4 := hg.c 4 rfl; have t5 := hg.c 5 rfl; have t6 := hg.c 6 rfl; have t7 := hg.c 7 rfl; have t8 := hg.c 8 rfl; clear hh hg; go_simp; with_reducible rfl
  rotate_left
  · simp only [Act.put, List.setIfInBounds_toArray, List.set_cons_zero, List.set_cons_succ, i64_w, i32_w]; rfl
  refine take_ (i := 6) (N := some 10) (v := ?_) (a' := ?_) #[true, true, true, true, true, true, true, false, false, false] rfl rfl (by kernel_rfl) (fun _ _ _ h => h) (Or.inl ⟨by rfl, ?_⟩) hHeld ?_ ?_
  rotate_left
  · intro w' hh; have hg := hh.2; have t0 := hg.c 0 rfl; have t1 := hg.c 1 rfl; have t2 := hg.c 2 rfl; have t3 := hg.c 3 rfl; have t4 := hg.c 4 rfl; clear hh hg; go_simp; with_reducible rfl
  rotate_left
  · simp only [Act.put, List.setIfInBounds_toArray, List.set_cons_zero, List.set_cons_succ, i64_w, i32_w]; rfl
  refine one_ (i := 7) (N := some 11) #[true, true, true, true, true, true, true, true, false, false] rfl rfl (by kernel_rfl) (by decide) (fun K hK => ?_)
  refine goes_ Tryz.func199 (by kernel_rfl) rfl #[.agg (jc Value.string j).toArray, .agg (LId.cells i).toArray] (by rfl) rfl rfl (by (try simp only [List.map_toArray, List.map_cons, List.map_nil]); first | done | rfl) ?_
  refine (HI.out w1 HB1.out).mono ?_
  rintro e w2 ⟨rfl, hb⟩
  refine ⟨_, rfl, ?_⟩
  refine hK.out _ _ ⟨hHeld.1.on hb, hHeld.2.on hb⟩ (fun hHeld' => ?_)
  clear hK K hHeld
  have HB2 := Lib.hid (HB1.out.trans (hb.mono HB1.out.size))
  clear hb
  refine norm_ (a' := ?_) ?_ ?_
  rotate_left
  · show Act.put _ (some 11) _ = _; simp only [Act.put, List.setIfInBounds_toArray, List.set_cons_zero, List.set_cons_succ, i64_w, i32_w]; rfl
  refine pure_ (i := 8) (N := some 12) (v := ?_) (a' := ?_) #[true, true, true, true, true, true, true, true, true, false] rfl rfl (by kernel_rfl) (fun _ _ _ h => h) (Or.inl ⟨by rfl, ?_⟩) ?_ ?_
  rotate_left
  · intro w'; go_simp; with_reducible rfl
  rotate_left
  · simp only [Act.put, List.setIfInBounds_toArray, List.set_cons_zero, List.set_cons_succ, i64_w, i32_w]; rfl
  refine pure_ (i := 9) (N := some 3) (v := ?_) (a' := ?_) #[true, true, true, true, true, true, true, true, true, true] rfl rfl (by kernel_rfl) (fun _ _ _ h => h) (Or.inl ⟨by rfl, ?_⟩) ?_ ?_
  rotate_left
  · intro w'; go_simp; with_reducible rfl
  rotate_left
  · simp only [Act.put, List.setIfInBounds_toArray, List.set_cons_zero, List.set_cons_succ, i64_w, i32_w]; rfl
  refine done_ (by kernel_rfl) ?_
  go_wp2
  go_ret
  exact ⟨rfl, HB2.out⟩
set_option maxRecDepth 100000 in
set_option maxHeartbeats 4000000 in
theorem ixu_s (us : List (Option (Job ByteArray))) (js : List (Option Nat)) (wb g : Nat) (i : LId) (w : World) (hws : BK w wb 204 (js.map pv).toArray) (hus : ∀ k : Nat, UJ Value.string 203 w js[k]? us[k]?) (hok : ∀ j, some j ∈ us → okj j) (hlen : us.length = js.length) (h4 : js.length ≤ 4) (hi : LId.ok i) (hM : ML w) (hg : BK w g 25 (LId.cells i).toArray) :
    Calls Tryz.prog 200 #[.slice (some ⟨wb, 0, none⟩) js.length js.length, .func (.func 201) #[] #[.pointer (some ⟨g, 0, none⟩)]] w (Made (.int .i64 (ix (us.findIdx? (Pst.isU i)))) w) := by
  have HWS := Lib.hid hws
  have HUS := Lib.hid hus
  have HOK := Lib.hid hok
  have HG := Lib.hid hg
  have HI := Lib.hid hi
  have HM := Lib.hid hM
  obtain ⟨n, hn⟩ : ∃ n, js.length = n := ⟨_, rfl⟩
  have HN := Lib.hid hn
  have HL := Lib.hid hlen
  rw [hn] at h4 ⊢
  clear hws hus hok hg hi hM hn hlen
  go_enter Tryz.func200, Tryz.ntmps200
  go_wp2
  go_loopg [5, 8] n (fun gg _ s8 wr => ∃ kk : Nat, kk ≤ n ∧ n - kk ≤ gg ∧ s8 = .int .i64 kk ∧ Hid (Below w.heap.size w wr) ∧ Hid ((us.take kk).findIdx? (Pst.isU i) = none))
  case atStart => exact ⟨0, Nat.zero_le _, by omega, rfl, Lib.hid (Below.refl _ w), Lib.hid (by simp)⟩
  case round =>
    obtain ⟨kk, hkk, hgg, rfl, BW, MISS⟩ := hrel
    by_cases hlt : kk < n
    · have hltz : (kk : Int) < (n : Int) := by omega
      obtain ⟨o, ho⟩ : ∃ o, js[kk]? = some o := ⟨_, List.getElem?_eq_getElem (by rw [HN.out]; exact hlt)⟩
      obtain ⟨u, hu⟩ : ∃ u, us[kk]? = some u := ⟨_, List.getElem?_eq_getElem (by rw [HL.out, HN.out]; exact hlt)⟩
      have hUJ := HUS.out kk
      rw [ho, hu] at hUJ
      have hx : wr.cell? ⟨wb, kk, none⟩ = some (pv o) := (HWS.out.on BW.out).c kk (by simp [ho])
      have hcall : Calls Tryz.prog 201 #[pv o, .pointer (some ⟨g, 0, none⟩)] wr (Made (.bool (Pst.isU i u)) wr) := by
        match o, u, hUJ with
        | none, none, _ => exact uclo0_s i g wr
        | some b, some j, hb => exact uclo_s j i b g wr (HOK.out j (List.mem_iff_getElem?.2 ⟨kk, hu⟩)) HI.out (HM.out.on BW.out) (HG.out.on BW.out) (BK.on hb BW.out)
      have HU := Lib.hid hu
      clear hUJ ho hu
      generalize pv o = x at *
      cases hq : Pst.isU i u with
      | true =>
        rw [hq] at hcall
        have HQ := Lib.hid hq
        clear hq
        go_wp2_with (refine hcall.mono ?_; rintro e w' ⟨rfl, hb'⟩)
        go_ret
        refine ⟨?_, BW.out.trans (hb'.mono BW.out.size)⟩
        rw [find_hit HU.out HQ.out MISS.out]; rfl
      | false =>
        rw [hq] at hcall
        have HQ := Lib.hid hq
        clear hq
        go_wp2_with (refine hcall.mono ?_; rintro e w' ⟨rfl, hb'⟩)
        go_roundg (n - (kk + 1))
        case measure => omega
        case rel => exact ⟨kk + 1, by omega, by omega, by go_num, Lib.hid (BW.out.trans (hb'.mono BW.out.size)), Lib.hid (find_miss HU.out HQ.out MISS.out)⟩
    · have hltz : ¬ (kk : Int) < (n : Int) := by omega
      have : kk = n := by omega
      subst this
      go_wp2
      go_ret
      refine ⟨?_, BW.out⟩
      have := MISS.out
      rw [List.take_of_length_le (by rw [HL.out, HN.out]; exact Nat.le_refl _)] at this
      rw [this]; rfl
set_option maxRecDepth 100000 in
set_option maxHeartbeats 4000000 in
theorem under_s {B : Nat} {s : Pst ByteArray} {h : PH} (i : LId) (w : World) (p : PMs B s h w) (hi : LId.ok i) : Calls Tryz.prog 167 #[.pointer (some ⟨h.pb, 0, none⟩), .agg (LId.cells i).toArray] w (Made (.int .i64 (ix (s.under i))) w) := by
  have c1 := p.box.c 1 rfl
  have hlt := p.box.lt
  have HX := Lib.hid (fun W g (hb : Below w.heap.size w W) (hg : BK W g 25 (LId.cells i).toArray) => ixu_s s.us h.js h.wb g i W (p.on hb).ws (p.on hb).us p.oku p.len p.many.2 hi (p.ml.on hb) hg)
  change Hid (∀ W g, Below w.heap.size w W → BK W g 25 (LId.cells i).toArray → Calls Tryz.prog 200 #[.slice (some ⟨h.wb, 0, none⟩) h.js.length h.js.length, .func (.func 201) #[] #[.pointer (some ⟨g, 0, none⟩)]] W (Made (.int .i64 (ix (s.under i))) W)) at HX
  generalize ix (s.under i) = R at *
  generalize h.js.length = n at *
  generalize h.pb = pb at *
  generalize h.wb = wb at *
  clear p hi
  unfold LId.cells at *
  go_enter Tryz.func167, Tryz.ntmps167
  go_wp2_with fail
  refine at1 (fun W hX hB hz => ?_)
  refine (HX.out W _ hB hX).mono ?_
  rintro e w2 ⟨rfl, hb⟩
  have HB := Lib.hid (hB.trans (hb.mono hB.size))
  clear hX hb hB hz
  go_wp2
  go_ret
  exact ⟨rfl, HB.out⟩
set_option maxRecDepth 100000 in
set_option maxHeartbeats 4000000 in
theorem worker_s {B : Nat} {s : Pst ByteArray} {h : PH} (k : Int) (w : World) (p : PMs B s h w) : Calls Tryz.prog 164 #[.pointer (some ⟨h.pb, 0, none⟩), .int .i64 k] w fun e w' => e = .returned (.int .i64 (if 0 ≤ k ∧ k < h.js.length then 0 else 9)) ∧ w = w' := by
  have c1 := p.box.c 1 rfl
  have HP := Lib.hid (none_s w p)
  generalize h.js.length = n at *
  generalize h.pb = pb at *
  generalize h.wb = wb at *
  clear p
  obtain ⟨R, hR⟩ : ∃ R : Int, (if 0 ≤ k ∧ k < (n : Int) then 0 else 9) = R := ⟨_, rfl⟩
  rw [hR]
  have HR := Lib.hid hR
  clear hR
  by_cases h0 : k < 0
  · have hr : R = 9 := by rw [← HR.out, if_neg (by omega)]
    have HR9 := Lib.hid hr
    clear hr
    go_enter Tryz.func164, Tryz.ntmps164
    go_wp2_with fail
    refine HP.out.mono ?_
    rintro e w2 ⟨rfl, rfl⟩
    go_wp2
    go_ret
    exact ⟨by rw [HR9.out]; rfl, rfl⟩
  · by_cases h1 : k < n
    · have hr : R = 0 := by rw [← HR.out, if_pos (by omega)]
      have HR9 := Lib.hid hr
      clear hr
      have h2 : ¬ (n : Int) ≤ k := by omega
      go_enter Tryz.func164, Tryz.ntmps164
      go_wp2_with fail
      refine HP.out.mono ?_
      rintro e w2 ⟨rfl, rfl⟩
      go_wp2
      go_ret
      exact ⟨by rw [HR9.out]; rfl, rfl⟩
    · have hr : R = 9 := by rw [← HR.out, if_neg (by omega)]
      have HR9 := Lib.hid hr
      clear hr
      have h2 : (n : Int) ≤ k := by omega
      go_enter Tryz.func164, Tryz.ntmps164
      go_wp2_with fail
      refine HP.out.mono ?_
      rintro e w2 ⟨rfl, rfl⟩
      go_wp2
      go_ret
      exact ⟨by rw [HR9.out]; rfl, rfl⟩
set_option maxRecDepth 100000 in
set_option maxHeartbeats 4000000 in
theorem Waits_s {B : Nat} {s : Pst ByteArray} {h : PH} (w : World) (p : PMs B s h w) : Calls Tryz.prog 115 #[.pointer (some ⟨h.pb, 0, none⟩)] w fun e w' => e = .returned (.int .i64 s.q.length) ∧ w = w' := by
  have HP := Lib.hid (none_s w p)
  obtain ⟨A, cap, hqv, -⟩ := own_row_s p.q
  have c0 := p.box.c 0 rfl
  rw [hqv] at c0
  generalize s.q.length = n at *
  generalize h.pb = pb at *
  clear p hqv
  go_enter Tryz.func115, Tryz.ntmps115
  go_wp2_with fail
  refine HP.out.mono ?_
  rintro e w2 ⟨rfl, rfl⟩
  go_wp2
  go_ret
  exact ⟨rfl, rfl⟩
end Go.Proofs.YtfploakafbnigaaGreatDoor
