/-
  Layer 28, the walks: Has, Under.
-/
import Derived.Test.YtfploakafbnigaaGreatDoorCPoolUnder
namespace Go.Proofs.YtfploakafbnigaaGreatDoor
open Go.RowKit Val Pl YtfploakafbnigaaGreatDoorW.PrintLast
set_option linter.unusedVariables false
set_option linter.unusedSimpArgs false
theorem has_ix {α : Type} (s : Pst α) (i : LId) : s.has i = ((s.waiting i).isSome || (s.under i).isSome) := by
  unfold Pst.has Pst.waiting Pst.under
  rw [List.findIdx?_isSome, List.findIdx?_isSome]
theorem count_take {α : Type} {l : List (Option α)} {k : Nat} {u : Option α} (h : l[k]? = some u) : (l.take (k + 1)).countP Option.isSome = (l.take k).countP Option.isSome + (if u.isSome then 1 else 0) := by
  have hk := (List.getElem?_eq_some_iff.1 h).1
  have e : l.take (k + 1) = l.take k ++ [u] := by
    rw [List.take_succ_eq_append_getElem hk]; congr 2; exact (List.getElem?_eq_some_iff.1 h).2
  rw [e, List.countP_append, List.countP_singleton]
set_option maxRecDepth 100000 in
set_option maxHeartbeats 4000000 in
theorem Has_i {B : Nat} {s : Pst Int} {h : PH} (i : LId) (w : World) (p : PMi B s h w) (hi : LId.ok i) : Calls Tryz.prog 47 #[.pointer (some ⟨h.pb, 0, none⟩), .agg (LId.cells i).toArray] w (Made (.bool (s.has i)) w) := by
  have HP := Lib.hid (fun W (hb : Below w.heap.size w W) => none_i W (p.on hb))
  have HW := Lib.hid (fun W (hb : Below w.heap.size w W) => waiting_i i W (p.on hb) hi)
  have HU := Lib.hid (fun W (hb : Below w.heap.size w W) => under_i i W (p.on hb) hi)
  have HE := Lib.hid (has_ix s i)
  generalize s.has i = R at *
  generalize h.pb = pb at *
  clear p hi
  unfold LId.cells at *
  obtain ⟨ow, how⟩ : ∃ o, s.waiting i = o := ⟨_, rfl⟩
  obtain ⟨ou, hou⟩ : ∃ o, s.under i = o := ⟨_, rfl⟩
  rw [how] at HW HE
  rw [hou] at HU HE
  clear how hou
  cases ow with
  | some k =>
    have HR : Hid (R = true) := Lib.hid HE.out
    have hk : ix (some k) = (k : Int) := rfl
    rw [hk] at HW
    clear hk HU
    go_enter Tryz.func47, Tryz.ntmps47
    go_upto_region 1 with (fail)
    have hb := made_end' w (.cells #[.int .i64 i.kind, .bool false, .string i.text, .slice none 0 0, .slice none 0 0] 25)
    have hX := BK.new w 25 #[.int .i64 i.kind, .bool false, .string i.text, .slice none 0 0, .slice none 0 0]
    have HB := Lib.hid hb
    clear hb
    generalize (w.alloc (.cells #[.int .i64 i.kind, .bool false, .string i.text, .slice none 0 0, .slice none 0 0] 25)) = w1 at *
    have y0 := hX.c 0 rfl
    have y1 := hX.c 1 rfl
    have y2 := hX.c 2 rfl
    have y3 := hX.c 3 rfl
    have y4 := hX.c 4 rfl
    clear hX
    go_wp2_with fail
    refine (HP.out w1 HB.out).mono ?_
    rintro e w2 ⟨rfl, rfl⟩
    go_wp2_with fail
    refine (HW.out w1 HB.out).mono ?_
    rintro e w2 ⟨rfl, hb⟩
    replace HB := Lib.hid (HB.out.trans (hb.mono HB.out.size))
    clear hb y0 y1 y2 y3 y4
    go_wp2
    go_ret
    exact ⟨ret_bool' (by rw [HR.out]), HB.out⟩
  | none =>
    have hk : ix none = (-1 : Int) := rfl
    rw [hk] at HW
    clear hk
    cases ou with
    | some k =>
      have HR : Hid (R = true) := Lib.hid HE.out
      have hk : ix (some k) = (k : Int) := rfl
      rw [hk] at HU
      clear hk
      go_enter Tryz.func47, Tryz.ntmps47
      go_upto_region 1 with (fail)
      have hb := made_end' w (.cells #[.int .i64 i.kind, .bool false, .string i.text, .slice none 0 0, .slice none 0 0] 25)
      have hX := BK.new w 25 #[.int .i64 i.kind, .bool false, .string i.text, .slice none 0 0, .slice none 0 0]
      have HB := Lib.hid hb
      clear hb
      generalize (w.alloc (.cells #[.int .i64 i.kind, .bool false, .string i.text, .slice none 0 0, .slice none 0 0] 25)) = w1 at *
      have y0 := hX.c 0 rfl
      have y1 := hX.c 1 rfl
      have y2 := hX.c 2 rfl
      have y3 := hX.c 3 rfl
      have y4 := hX.c 4 rfl
      go_wp2_with fail
      refine (HP.out w1 HB.out).mono ?_
      rintro e w2 ⟨rfl, rfl⟩
      go_wp2_with fail
      refine (HW.out w1 HB.out).mono ?_
      rintro e w2 ⟨rfl, hb⟩
      replace HB := Lib.hid (HB.out.trans (hb.mono HB.out.size))
      replace hX := hX.on hb
      clear hb y0 y1 y2 y3 y4
      have y0 := hX.c 0 rfl
      have y1 := hX.c 1 rfl
      have y2 := hX.c 2 rfl
      have y3 := hX.c 3 rfl
      have y4 := hX.c 4 rfl
      go_wp2_with fail
      refine (HU.out w2 HB.out).mono ?_
      rintro e w3 ⟨rfl, hb⟩
      replace HB := Lib.hid (HB.out.trans (hb.mono HB.out.size))
      clear hb y0 y1 y2 y3 y4 hX
      go_wp2
      go_ret
      exact ⟨ret_bool' (by rw [HR.out]), HB.out⟩
    | none =>
      have HR : Hid (R = false) := Lib.hid HE.out
      have hk : ix none = (-1 : Int) := rfl
      rw [hk] at HU
      clear hk
      go_enter Tryz.func47, Tryz.ntmps47
      go_upto_region 1 with (fail)
      have hb := made_end' w (.cells #[.int .i64 i.kind, .bool false, .string i.text, .slice none 0 0, .slice none 0 0] 25)
      have hX := BK.new w 25 #[.int .i64 i.kind, .bool false, .string i.text, .slice none 0 0, .slice none 0 0]
      have HB := Lib.hid hb
      clear hb
      generalize (w.alloc (.cells #[.int .i64 i.kind, .bool false, .string i.text, .slice none 0 0, .slice none 0 0] 25)) = w1 at *
      have y0 := hX.c 0 rfl
      have y1 := hX.c 1 rfl
      have y2 := hX.c 2 rfl
      have y3 := hX.c 3 rfl
      have y4 := hX.c 4 rfl
      go_wp2_with fail
      refine (HP.out w1 HB.out).mono ?_
      rintro e w2 ⟨rfl, rfl⟩
      go_wp2_with fail
      refine (HW.out w1 HB.out).mono ?_
      rintro e w2 ⟨rfl, hb⟩
      replace HB := Lib.hid (HB.out.trans (hb.mono HB.out.size))
      replace hX := hX.on hb
      clear hb y0 y1 y2 y3 y4
      have y0 := hX.c 0 rfl
      have y1 := hX.c 1 rfl
      have y2 := hX.c 2 rfl
      have y3 := hX.c 3 rfl
      have y4 := hX.c 4 rfl
      go_wp2_with fail
      refine (HU.out w2 HB.out).mono ?_
      rintro e w3 ⟨rfl, hb⟩
      replace HB := Lib.hid (HB.out.trans (hb.mono HB.out.size))
      clear hb y0 y1 y2 y3 y4 hX
      go_wp2
      go_ret
      exact ⟨ret_bool' (by rw [HR.out]), HB.out⟩
set_option maxRecDepth 100000 in
set_option maxHeartbeats 4000000 in
theorem Under_i {B : Nat} {s : Pst Int} {h : PH} (w : World) (p : PMi B s h w) : Calls Tryz.prog 50 #[.pointer (some ⟨h.pb, 0, none⟩)] w fun e w' => e = .returned (.int .i64 s.many) ∧ w = w' := by
  have HP := Lib.hid (none_i w p)
  have c1 := p.box.c 1 rfl
  have HWS := Lib.hid p.ws
  have HUS := Lib.hid p.us
  have h4 := p.many.2
  have HL := Lib.hid p.len
  obtain ⟨n, hn⟩ : ∃ n, h.js.length = n := ⟨_, rfl⟩
  have HN := Lib.hid hn
  rw [hn] at c1 h4
  generalize h.pb = pb at *
  generalize h.wb = wb at *
  generalize h.js = js at *
  clear p hn
  have hmany : s.many = s.us.countP Option.isSome := rfl
  rw [hmany]
  generalize s.us = us at *
  clear hmany
  go_enter Tryz.func50, Tryz.ntmps50
  go_wp2_with fail
  refine HP.out.mono ?_
  rintro e w2 ⟨rfl, rfl⟩
  go_wp2_with fail
  clear c1
  go_loopg [2, 4, 12] n (fun gg s2 _ s12 wr => ∃ kk : Nat, kk ≤ n ∧ n - kk ≤ gg ∧ s12 = .int .i64 kk ∧ s2 = .int .i64 ((us.take kk).countP Option.isSome : Nat) ∧ w = wr)
  case atStart => exact ⟨0, Nat.zero_le _, by omega, rfl, rfl, rfl⟩
  case round =>
    obtain ⟨kk, hkk, hgg, rfl, rfl, rfl⟩ := hrel
    by_cases hlt : kk < n
    · have hltz : (kk : Int) < (n : Int) := by omega
      obtain ⟨o, ho⟩ : ∃ o, js[kk]? = some o := ⟨_, List.getElem?_eq_getElem (by rw [HN.out]; exact hlt)⟩
      obtain ⟨u, hu⟩ : ∃ u, us[kk]? = some u := ⟨_, List.getElem?_eq_getElem (by rw [HL.out, HN.out]; exact hlt)⟩
      have hUJ := HUS.out kk
      rw [ho, hu] at hUJ
      have hx : w.cell? ⟨wb, kk, none⟩ = some (pv o) := HWS.out.c kk (by simp [ho])
      have hc : (us.take (kk + 1)).countP Option.isSome = (us.take kk).countP Option.isSome + (if u.isSome then 1 else 0) := count_take hu
      have hc4 : (us.take kk).countP Option.isSome ≤ 4 := Nat.le_trans (List.countP_le_length) (by rw [List.length_take]; omega)
      have HC := Lib.hid hc
      clear hc ho hu
      generalize (us.take kk).countP Option.isSome = m at *
      cases u with
      | none =>
        have : o = none := by cases o with
          | none => rfl
          | some b => exact hUJ.elim
        subst this
        have hx' : w.cell? ⟨wb, kk, none⟩ = some (.pointer none) := hx
        clear hx hUJ
        go_wp2
        go_roundg (n - (kk + 1))
        case measure => omega
        case rel => exact ⟨kk + 1, by omega, by omega, by go_num, by rw [HC.out]; rfl, rfl⟩
      | some j =>
        obtain ⟨b, rfl⟩ : ∃ b, o = some b := by cases o with
          | none => exact hUJ.elim
          | some b => exact ⟨b, rfl⟩
        have hx' : w.cell? ⟨wb, kk, none⟩ = some (.pointer (some ⟨b, 0, none⟩)) := hx
        clear hx hUJ
        go_wp2
        go_roundg (n - (kk + 1))
        case measure => omega
        case rel => exact ⟨kk + 1, by omega, by omega, by go_num, by rw [HC.out]; simp, rfl⟩
    · have hltz : ¬ (kk : Int) < (n : Int) := by omega
      have : kk = n := by omega
      subst this
      rw [List.take_of_length_le (by rw [HL.out, HN.out]; exact Nat.le_refl _)]
      go_wp2
      go_ret
      exact ⟨rfl, rfl⟩
set_option maxRecDepth 100000 in
set_option maxHeartbeats 4000000 in
theorem Has_s {B : Nat} {s : Pst ByteArray} {h : PH} (i : LId) (w : World) (p : PMs B s h w) (hi : LId.ok i) : Calls Tryz.prog 161 #[.pointer (some ⟨h.pb, 0, none⟩), .agg (LId.cells i).toArray] w (Made (.bool (s.has i)) w) := by
  have HP := Lib.hid (fun W (hb : Below w.heap.size w W) => none_s W (p.on hb))
  have HW := Lib.hid (fun W (hb : Below w.heap.size w W) => waiting_s i W (p.on hb) hi)
  have HU := Lib.hid (fun W (hb : Below w.heap.size w W) => under_s i W (p.on hb) hi)
  have HE := Lib.hid (has_ix s i)
  generalize s.has i = R at *
  generalize h.pb = pb at *
  clear p hi
  unfold LId.cells at *
  obtain ⟨ow, how⟩ : ∃ o, s.waiting i = o := ⟨_, rfl⟩
  obtain ⟨ou, hou⟩ : ∃ o, s.under i = o := ⟨_, rfl⟩
  rw [how] at HW HE
  rw [hou] at HU HE
  clear how hou
  cases ow with
  | some k =>
    have HR : Hid (R = true) := Lib.hid HE.out
    have hk : ix (some k) = (k : Int) := rfl
    rw [hk] at HW
    clear hk HU
    go_enter Tryz.func161, Tryz.ntmps161
    go_upto_region 1 with (fail)
    have hb := made_end' w (.cells #[.int .i64 i.kind, .bool false, .string i.text, .slice none 0 0, .slice none 0 0] 25)
    have hX := BK.new w 25 #[.int .i64 i.kind, .bool false, .string i.text, .slice none 0 0, .slice none 0 0]
    have HB := Lib.hid hb
    clear hb
    generalize (w.alloc (.cells #[.int .i64 i.kind, .bool false, .string i.text, .slice none 0 0, .slice none 0 0] 25)) = w1 at *
    have y0 := hX.c 0 rfl
    have y1 := hX.c 1 rfl
    have y2 := hX.c 2 rfl
    have y3 := hX.c 3 rfl
    have y4 := hX.c 4 rfl
    clear hX
    go_wp2_with fail
    refine (HP.out w1 HB.out).mono ?_
    rintro e w2 ⟨rfl, rfl⟩
    go_wp2_with fail
    refine (HW.out w1 HB.out).mono ?_
    rintro e w2 ⟨rfl, hb⟩
    replace HB := Lib.hid (HB.out.trans (hb.mono HB.out.size))
    clear hb y0 y1 y2 y3 y4
    go_wp2
    go_ret
    exact ⟨ret_bool' (by rw [HR.out]), HB.out⟩
  | none =>
    have hk : ix none = (-1 : Int) := rfl
    rw [hk] at HW
    clear hk
    cases ou with
    | some k =>
      have HR : Hid (R = true) := Lib.hid HE.out
      have hk : ix (some k) = (k : Int) := rfl
      rw [hk] at HU
      clear hk
      go_enter Tryz.func161, Tryz.ntmps161
      go_upto_region 1 with (fail)
      have hb := made_end' w (.cells #[.int .i64 i.kind, .bool false, .string i.text, .slice none 0 0, .slice none 0 0] 25)
      have hX := BK.new w 25 #[.int .i64 i.kind, .bool false, .string i.text, .slice none 0 0, .slice none 0 0]
      have HB := Lib.hid hb
      clear hb
      generalize (w.alloc (.cells #[.int .i64 i.kind, .bool false, .string i.text, .slice none 0 0, .slice none 0 0] 25)) = w1 at *
      have y0 := hX.c 0 rfl
      have y1 := hX.c 1 rfl
      have y2 := hX.c 2 rfl
      have y3 := hX.c 3 rfl
      have y4 := hX.c 4 rfl
      go_wp2_with fail
      refine (HP.out w1 HB.out).mono ?_
      rintro e w2 ⟨rfl, rfl⟩
      go_wp2_with fail
      refine (HW.out w1 HB.out).mono ?_
      rintro e w2 ⟨rfl, hb⟩
      replace HB := Lib.hid (HB.out.trans (hb.mono HB.out.size))
      replace hX := hX.on hb
      clear hb y0 y1 y2 y3 y4
      have y0 := hX.c 0 rfl
      have y1 := hX.c 1 rfl
      have y2 := hX.c 2 rfl
      have y3 := hX.c 3 rfl
      have y4 := hX.c 4 rfl
      go_wp2_with fail
      refine (HU.out w2 HB.out).mono ?_
      rintro e w3 ⟨rfl, hb⟩
      replace HB := Lib.hid (HB.out.trans (hb.mono HB.out.size))
      clear hb y0 y1 y2 y3 y4 hX
      go_wp2
      go_ret
      exact ⟨ret_bool' (by rw [HR.out]), HB.out⟩
    | none =>
      have HR : Hid (R = false) := Lib.hid HE.out
      have hk : ix none = (-1 : Int) := rfl
      rw [hk] at HU
      clear hk
      go_enter Tryz.func161, Tryz.ntmps161
      go_upto_region 1 with (fail)
      have hb := made_end' w (.cells #[.int .i64 i.kind, .bool false, .string i.text, .slice none 0 0, .slice none 0 0] 25)
      have hX := BK.new w 25 #[.int .i64 i.kind, .bool false, .string i.text, .slice none 0 0, .slice none 0 0]
      have HB := Lib.hid hb
      clear hb
      generalize (w.alloc (.cells #[.int .i64 i.kind, .bool false, .string i.text, .slice none 0 0, .slice none 0 0] 25)) = w1 at *
      have y0 := hX.c 0 rfl
      have y1 := hX.c 1 rfl
      have y2 := hX.c 2 rfl
      have y3 := hX.c 3 rfl
      have y4 := hX.c 4 rfl
      go_wp2_with fail
      refine (HP.out w1 HB.out).mono ?_
      rintro e w2 ⟨rfl, rfl⟩
      go_wp2_with fail
      refine (HW.out w1 HB.out).mono ?_
      rintro e w2 ⟨rfl, hb⟩
      replace HB := Lib.hid (HB.out.trans (hb.mono HB.out.size))
      replace hX := hX.on hb
      clear hb y0 y1 y2 y3 y4
      have y0 := hX.c 0 rfl
      have y1 := hX.c 1 rfl
      have y2 := hX.c 2 rfl
      have y3 := hX.c 3 rfl
      have y4 := hX.c 4 rfl
      go_wp2_with fail
      refine (HU.out w2 HB.out).mono ?_
      rintro e w3 ⟨rfl, hb⟩
      replace HB := Lib.hid (HB.out.trans (hb.mono HB.out.size))
      clear hb y0 y1 y2 y3 y4 hX
      go_wp2
      go_ret
      exact ⟨ret_bool' (by rw [HR.out]), HB.out⟩
set_option maxRecDepth 100000 in
set_option maxHeartbeats 4000000 in
theorem Under_s {B : Nat} {s : Pst ByteArray} {h : PH} (w : World) (p : PMs B s h w) : Calls Tryz.prog 117 #[.pointer (some ⟨h.pb, 0, none⟩)] w fun e w' => e = .returned (.int .i64 s.many) ∧ w = w' := by
  have HP := Lib.hid (none_s w p)
  have c1 := p.box.c 1 rfl
  have HWS := Lib.hid p.ws
  have HUS := Lib.hid p.us
  have h4 := p.many.2
  have HL := Lib.hid p.len
  obtain ⟨n, hn⟩ : ∃ n, h.js.length = n := ⟨_, rfl⟩
  have HN := Lib.hid hn
  rw [hn] at c1 h4
  generalize h.pb = pb at *
  generalize h.wb = wb at *
  generalize h.js = js at *
  clear p hn
  have hmany : s.many = s.us.countP Option.isSome := rfl
  rw [hmany]
  generalize s.us = us at *
  clear hmany
  go_enter Tryz.func117, Tryz.ntmps117
  go_wp2_with fail
  refine HP.out.mono ?_
  rintro e w2 ⟨rfl, rfl⟩
  go_wp2_with fail
  clear c1
  go_loopg [2, 4, 12] n (fun gg s2 _ s12 wr => ∃ kk : Nat, kk ≤ n ∧ n - kk ≤ gg ∧ s12 = .int .i64 kk ∧ s2 = .int .i64 ((us.take kk).countP Option.isSome : Nat) ∧ w = wr)
  case atStart => exact ⟨0, Nat.zero_le _, by omega, rfl, rfl, rfl⟩
  case round =>
    obtain ⟨kk, hkk, hgg, rfl, rfl, rfl⟩ := hrel
    by_cases hlt : kk < n
    · have hltz : (kk : Int) < (n : Int) := by omega
      obtain ⟨o, ho⟩ : ∃ o, js[kk]? = some o := ⟨_, List.getElem?_eq_getElem (by rw [HN.out]; exact hlt)⟩
      obtain ⟨u, hu⟩ : ∃ u, us[kk]? = some u := ⟨_, List.getElem?_eq_getElem (by rw [HL.out, HN.out]; exact hlt)⟩
      have hUJ := HUS.out kk
      rw [ho, hu] at hUJ
      have hx : w.cell? ⟨wb, kk, none⟩ = some (pv o) := HWS.out.c kk (by simp [ho])
      have hc : (us.take (kk + 1)).countP Option.isSome = (us.take kk).countP Option.isSome + (if u.isSome then 1 else 0) := count_take hu
      have hc4 : (us.take kk).countP Option.isSome ≤ 4 := Nat.le_trans (List.countP_le_length) (by rw [List.length_take]; omega)
      have HC := Lib.hid hc
      clear hc ho hu
      generalize (us.take kk).countP Option.isSome = m at *
      cases u with
      | none =>
        have : o = none := by cases o with
          | none => rfl
          | some b => exact hUJ.elim
        subst this
        have hx' : w.cell? ⟨wb, kk, none⟩ = some (.pointer none) := hx
        clear hx hUJ
        go_wp2
        go_roundg (n - (kk + 1))
        case measure => omega
        case rel => exact ⟨kk + 1, by omega, by omega, by go_num, by rw [HC.out]; rfl, rfl⟩
      | some j =>
        obtain ⟨b, rfl⟩ : ∃ b, o = some b := by cases o with
          | none => exact hUJ.elim
          | some b => exact ⟨b, rfl⟩
        have hx' : w.cell? ⟨wb, kk, none⟩ = some (.pointer (some ⟨b, 0, none⟩)) := hx
        clear hx hUJ
        go_wp2
        go_roundg (n - (kk + 1))
        case measure => omega
        case rel => exact ⟨kk + 1, by omega, by omega, by go_num, by rw [HC.out]; simp, rfl⟩
    · have hltz : ¬ (kk : Int) < (n : Int) := by omega
      have : kk = n := by omega
      subst this
      rw [List.take_of_length_le (by rw [HL.out, HN.out]; exact Nat.le_refl _)]
      go_wp2
      go_ret
      exact ⟨rfl, rfl⟩
end Go.Proofs.YtfploakafbnigaaGreatDoor
