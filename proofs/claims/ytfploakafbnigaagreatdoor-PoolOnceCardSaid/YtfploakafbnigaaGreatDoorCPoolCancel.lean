/-
  Layer 28, the walks: Cancel.
-/
import Derived.Test.YtfploakafbnigaaGreatDoorCPoolCall
namespace Go.Proofs.YtfploakafbnigaaGreatDoor
open Go.RowKit Val Pl YtfploakafbnigaaGreatDoorW.PrintLast
set_option linter.unusedVariables false
set_option linter.unusedSimpArgs false
set_option maxRecDepth 100000 in
set_option maxHeartbeats 4000000 in
theorem Cancel_i {B : Nat} {s : Pst Int} {h : PH} (i : LId) (w : World) (p : PMi B s h w) (hi : LId.ok i) (hid : i.same i = true) : Calls Tryz.prog 46 #[.pointer (some ⟨h.pb, 0, none⟩), .agg (LId.cells i).toArray] w (PO (Value.int .i64) 132 86 136 B ((s.cancel i).2) h (.tuple #[.bool (s.cancel i).1, .int .i64 0]) w) := by
  have HP := Lib.hid p
  have HI := Lib.hid hi
  have HS := Lib.hid (fun W (hM : ML W) => sameId_any i.vt i.vt (zLt 0) (zLt 0) _ _ W (leaf_VLV hi) (leaf_VLV hi) hM (by have := hi.2; rw [leaf_bulk]; omega) (by have := hi.2; rw [leaf_bulk]; omega))
  have hsm : i.vt.sameId i.vt = i.same i := rfl
  rw [hsm, hid] at HS
  obtain ⟨pb, hpb⟩ : ∃ b, h.pb = b := ⟨_, rfl⟩
  have HPB := Lib.hid hpb
  rw [hpb]
  have hle := p.le
  have hjl := p.many.2
  have hlen := p.len
  clear p hi hpb hsm hid
  unfold LId.cells at *
  cases ho : s.waiting i with
  | some k =>
    have e1 : s.cancel i = (true, ⟨s.q.eraseIdx k, s.us⟩) := by unfold Pst.cancel; rw [ho]
    rw [e1]
    dsimp only
    have HO := Lib.hid ho
    obtain ⟨jj, hj, -⟩ := Pst.findIdx_get ho
    have hk := (List.getElem?_eq_some_iff.1 hj).1
    clear ho e1 hj
    go_enter Tryz.func46, Tryz.ntmps46
    go_upto_region 1 with (fail)
    have hb := made_end' w (.cells #[.int .i64 i.kind, .bool false, .string i.text, .slice none 0 0, .slice none 0 0] 25)
    have hX := BK.new w 25 #[.int .i64 i.kind, .bool false, .string i.text, .slice none 0 0, .slice none 0 0]
    replace HP := Lib.hid (HP.out.on hb)
    have HB := Lib.hid hb
    clear hb
    generalize (w.alloc (.cells #[.int .i64 i.kind, .bool false, .string i.text, .slice none 0 0, .slice none 0 0] 25)) = w1 at *
    have y0 := hX.c 0 rfl
    have y1 := hX.c 1 rfl
    have y2 := hX.c 2 rfl
    have y3 := hX.c 3 rfl
    have y4 := hX.c 4 rfl
    go_wp2_with fail
    rw [← HPB.out]
    refine (none_i w1 HP.out).mono ?_
    rintro e w2 ⟨rfl, rfl⟩
    go_wp2_with fail
    refine (HS.out w1 HP.out.ml).mono ?_
    rintro e w2 ⟨rfl, hb⟩
    clear y0 y1 y2 y3 y4
    replace hX := hX.on hb
    replace HP := Lib.hid (HP.out.on hb)
    replace HB := Lib.hid (HB.out.trans (hb.mono HB.out.size))
    clear hb
    have y0 := hX.c 0 rfl
    have y1 := hX.c 1 rfl
    have y2 := hX.c 2 rfl
    have y3 := hX.c 3 rfl
    have y4 := hX.c 4 rfl
    go_wp2_with fail
    refine (waiting_i i w2 HP.out HI.out).mono ?_
    rintro e w3 ⟨rfl, hb⟩
    rw [HO.out]
    have hx : ix (some k) = (k : Int) := rfl
    rw [hx]
    clear hx
    clear y0 y1 y2 y3 y4
    replace hX := hX.on hb
    replace HP := Lib.hid (HP.out.on hb)
    replace HB := Lib.hid (HB.out.trans (hb.mono HB.out.size))
    clear hb
    have y0 := hX.c 0 rfl
    have y1 := hX.c 1 rfl
    have y2 := hX.c 2 rfl
    have y3 := hX.c 3 rfl
    have y4 := hX.c 4 rfl
    have c0 := HP.out.box.c 0 rfl
    go_wp2_with fail
    refine (del_i s.q B k (k : Int) ((k : Int) + 1) h.qv w3 HP.out.q HP.out.le hk rfl rfl).mono ?_
    rintro e w4 ⟨g, cap, hqv, rfl, hown, hbt⟩
    have HBT := Lib.hid hbt
    have HOWN := Lib.hid hown
    have hgq : h.qv.ownBlock = some g := by rw [hqv]; rfl
    have hf : BK w4 h.pb 86 #[h.qv, .slice (some ⟨h.wb, 0, none⟩) h.js.length h.js.length] := HP.out.box.but HBT.out (fun e => HP.out.pq (hgq.trans (congrArg some e.symm)))
    clear y0 y1 y2 y3 y4 hX c0 hown hbt
    have c0 := hf.c 0 rfl
    have f0 := hf.fr 0
    have HGQ := Lib.hid hgq
    clear hf hgq hqv
    go_wp2
    go_ret2
    have hel : (s.q.eraseIdx k).length = s.q.length - 1 := by rw [List.length_eraseIdx_of_lt hk]
    obtain ⟨hr1, hr2⟩ := PM.requeue (q' := s.q.eraseIdx k) (v' := .slice (some ⟨g, 0, none⟩) (s.q.length - 1) cap) (w1 := w4) HP.out HOWN.out (by omega) (fun a ha => HP.out.okq a (List.mem_of_mem_eraseIdx ha))
      (fun b' hb' => .inl (by have e : g = b' := by simpa [Value.ownBlock] using hb'
                              rw [← e]; exact HGQ.out)) HBT.out.os HBT.out.tape HBT.out.output HBT.out.size (fun b' hb' hn => HBT.out.block b' hb' (fun e => hn (by rw [e]; exact HGQ.out)))
    exact ⟨{ h with qv := .slice (some ⟨g, 0, none⟩) (s.q.length - 1) cap }, rfl, rfl, hr1, (Mv.of HB.out).trans hr2⟩
  | none =>
    have HO := Lib.hid ho
    cases hu : s.under i with
    | some k =>
      have e1 : s.cancel i = (false, ⟨s.q, s.us.modify k (Option.map (fun j => { j with can := true }))⟩) := by unfold Pst.cancel; rw [ho, hu]
      rw [e1]
      dsimp only
      have HU := Lib.hid hu
      obtain ⟨u, hj, hp⟩ := Pst.findIdx_get hu
      obtain ⟨j, rfl⟩ : ∃ j, u = some j := by cases u with
        | none => cases hp
        | some j => exact ⟨j, rfl⟩
      have hk : k < h.js.length := by rw [← hlen]; exact (List.getElem?_eq_some_iff.1 hj).1
      have HJ := Lib.hid hj
      clear ho hu e1 hj hp
      go_enter Tryz.func46, Tryz.ntmps46
      go_upto_region 1 with (fail)
      have hb := made_end' w (.cells #[.int .i64 i.kind, .bool false, .string i.text, .slice none 0 0, .slice none 0 0] 25)
      have hX := BK.new w 25 #[.int .i64 i.kind, .bool false, .string i.text, .slice none 0 0, .slice none 0 0]
      replace HP := Lib.hid (HP.out.on hb)
      have HB := Lib.hid hb
      clear hb
      generalize (w.alloc (.cells #[.int .i64 i.kind, .bool false, .string i.text, .slice none 0 0, .slice none 0 0] 25)) = w1 at *
      have y0 := hX.c 0 rfl
      have y1 := hX.c 1 rfl
      have y2 := hX.c 2 rfl
      have y3 := hX.c 3 rfl
      have y4 := hX.c 4 rfl
      go_wp2_with fail
      rw [← HPB.out]
      refine (none_i w1 HP.out).mono ?_
      rintro e w2 ⟨rfl, rfl⟩
      go_wp2_with fail
      refine (HS.out w1 HP.out.ml).mono ?_
      rintro e w2 ⟨rfl, hb⟩
      clear y0 y1 y2 y3 y4
      replace hX := hX.on hb
      replace HP := Lib.hid (HP.out.on hb)
      replace HB := Lib.hid (HB.out.trans (hb.mono HB.out.size))
      clear hb
      have y0 := hX.c 0 rfl
      have y1 := hX.c 1 rfl
      have y2 := hX.c 2 rfl
      have y3 := hX.c 3 rfl
      have y4 := hX.c 4 rfl
      go_wp2_with fail
      refine (waiting_i i w2 HP.out HI.out).mono ?_
      rintro e w3 ⟨rfl, hb⟩
      rw [HO.out]
      have hx : ix (none) = (-1 : Int) := rfl
      rw [hx]
      clear hx
      clear y0 y1 y2 y3 y4
      replace hX := hX.on hb
      replace HP := Lib.hid (HP.out.on hb)
      replace HB := Lib.hid (HB.out.trans (hb.mono HB.out.size))
      clear hb
      have y0 := hX.c 0 rfl
      have y1 := hX.c 1 rfl
      have y2 := hX.c 2 rfl
      have y3 := hX.c 3 rfl
      have y4 := hX.c 4 rfl
      go_wp2_with fail
      refine (under_i i w3 HP.out HI.out).mono ?_
      rintro e w4 ⟨rfl, hb⟩
      rw [HU.out]
      have hx : ix (some k) = (k : Int) := rfl
      rw [hx]
      clear hx
      clear y0 y1 y2 y3 y4
      replace hX := hX.on hb
      replace HP := Lib.hid (HP.out.on hb)
      replace HB := Lib.hid (HB.out.trans (hb.mono HB.out.size))
      clear hb
      have y0 := hX.c 0 rfl
      have y1 := hX.c 1 rfl
      have y2 := hX.c 2 rfl
      have y3 := hX.c 3 rfl
      have y4 := hX.c 4 rfl
      have c1 := HP.out.box.c 1 rfl
      obtain ⟨o, hoj⟩ : ∃ o, h.js[k]? = some o := ⟨_, List.getElem?_eq_getElem hk⟩
      have hUJ := HP.out.us k
      rw [hoj, HJ.out] at hUJ
      obtain ⟨b, rfl⟩ : ∃ b, o = some b := by cases o with
        | none => exact hUJ.elim
        | some b => exact ⟨b, rfl⟩
      have hbj : BK w4 b 132 (jc (Value.int .i64) j).toArray := hUJ
      have hx : w4.cell? ⟨h.wb, k, none⟩ = some (.pointer (some ⟨b, 0, none⟩)) := HP.out.ws.c k (by simp [hoj]; rfl)
      have c8 : w4.cell? ⟨b, 8, none⟩ = some (.bool j.can) := hbj.c 8 rfl
      have f8 := hbj.fr 8
      have i1 : (0 : Int) ≤ (k : Int) := by omega
      have i2 : (k : Int) < (h.js.length : Int) := by omega
      have HOJ := Lib.hid hoj
      clear y0 y1 y2 y3 y4 hX hUJ hbj hoj hk
      go_wp2
      go_ret2
      obtain ⟨hr1, hr2⟩ := HP.out.mark HOJ.out HJ.out
      exact ⟨h, rfl, rfl, hr1, (Mv.of HB.out).trans hr2⟩
    | none =>
      have e1 : s.cancel i = (false, s) := by unfold Pst.cancel; rw [ho, hu]
      rw [e1]
      dsimp only
      have HU := Lib.hid hu
      clear ho hu e1
      go_enter Tryz.func46, Tryz.ntmps46
      go_upto_region 1 with (fail)
      have hb := made_end' w (.cells #[.int .i64 i.kind, .bool false, .string i.text, .slice none 0 0, .slice none 0 0] 25)
      have hX := BK.new w 25 #[.int .i64 i.kind, .bool false, .string i.text, .slice none 0 0, .slice none 0 0]
      replace HP := Lib.hid (HP.out.on hb)
      have HB := Lib.hid hb
      clear hb
      generalize (w.alloc (.cells #[.int .i64 i.kind, .bool false, .string i.text, .slice none 0 0, .slice none 0 0] 25)) = w1 at *
      have y0 := hX.c 0 rfl
      have y1 := hX.c 1 rfl
      have y2 := hX.c 2 rfl
      have y3 := hX.c 3 rfl
      have y4 := hX.c 4 rfl
      go_wp2_with fail
      rw [← HPB.out]
      refine (none_i w1 HP.out).mono ?_
      rintro e w2 ⟨rfl, rfl⟩
      go_wp2_with fail
      refine (HS.out w1 HP.out.ml).mono ?_
      rintro e w2 ⟨rfl, hb⟩
      clear y0 y1 y2 y3 y4
      replace hX := hX.on hb
      replace HP := Lib.hid (HP.out.on hb)
      replace HB := Lib.hid (HB.out.trans (hb.mono HB.out.size))
      clear hb
      have y0 := hX.c 0 rfl
      have y1 := hX.c 1 rfl
      have y2 := hX.c 2 rfl
      have y3 := hX.c 3 rfl
      have y4 := hX.c 4 rfl
      go_wp2_with fail
      refine (waiting_i i w2 HP.out HI.out).mono ?_
      rintro e w3 ⟨rfl, hb⟩
      rw [HO.out]
      have hx : ix (none) = (-1 : Int) := rfl
      rw [hx]
      clear hx
      clear y0 y1 y2 y3 y4
      replace hX := hX.on hb
      replace HP := Lib.hid (HP.out.on hb)
      replace HB := Lib.hid (HB.out.trans (hb.mono HB.out.size))
      clear hb
      have y0 := hX.c 0 rfl
      have y1 := hX.c 1 rfl
      have y2 := hX.c 2 rfl
      have y3 := hX.c 3 rfl
      have y4 := hX.c 4 rfl
      go_wp2_with fail
      refine (under_i i w3 HP.out HI.out).mono ?_
      rintro e w4 ⟨rfl, hb⟩
      rw [HU.out]
      have hx : ix (none) = (-1 : Int) := rfl
      rw [hx]
      clear hx
      clear y0 y1 y2 y3 y4
      replace hX := hX.on hb
      replace HP := Lib.hid (HP.out.on hb)
      replace HB := Lib.hid (HB.out.trans (hb.mono HB.out.size))
      clear hb
      have y0 := hX.c 0 rfl
      have y1 := hX.c 1 rfl
      have y2 := hX.c 2 rfl
      have y3 := hX.c 3 rfl
      have y4 := hX.c 4 rfl
      go_wp2
      go_ret2
      exact PO.from_i HB.out (HP.out.read rfl (Below.refl _ _))
set_option maxRecDepth 100000 in
set_option maxHeartbeats 4000000 in
theorem Cancel_s {B : Nat} {s : Pst ByteArray} {h : PH} (i : LId) (w : World) (p : PMs B s h w) (hi : LId.ok i) (hid : i.same i = true) : Calls Tryz.prog 118 #[.pointer (some ⟨h.pb, 0, none⟩), .agg (LId.cells i).toArray] w (PO Value.string 203 200 204 B ((s.cancel i).2) h (.tuple #[.bool (s.cancel i).1, .int .i64 0]) w) := by
  have HP := Lib.hid p
  have HI := Lib.hid hi
  have HS := Lib.hid (fun W (hM : ML W) => sameId_any i.vt i.vt (zLt 0) (zLt 0) _ _ W (leaf_VLV hi) (leaf_VLV hi) hM (by have := hi.2; rw [leaf_bulk]; omega) (by have := hi.2; rw [leaf_bulk]; omega))
  have hsm : i.vt.sameId i.vt = i.same i := rfl
  rw [hsm, hid] at HS
  obtain ⟨pb, hpb⟩ : ∃ b, h.pb = b := ⟨_, rfl⟩
  have HPB := Lib.hid hpb
  rw [hpb]
  have hle := p.le
  have hjl := p.many.2
  have hlen := p.len
  clear p hi hpb hsm hid
  unfold LId.cells at *
  cases ho : s.waiting i with
  | some k =>
    have e1 : s.cancel i = (true, ⟨s.q.eraseIdx k, s.us⟩) := by unfold Pst.cancel; rw [ho]
    rw [e1]
    dsimp only
    have HO := Lib.hid ho
    obtain ⟨jj, hj, -⟩ := Pst.findIdx_get ho
    have hk := (List.getElem?_eq_some_iff.1 hj).1
    clear ho e1 hj
    go_enter Tryz.func118, Tryz.ntmps118
    go_upto_region 1 with (fail)
    have hb := made_end' w (.cells #[.int .i64 i.kind, .bool false, .string i.text, .slice none 0 0, .slice none 0 0] 25)
    have hX := BK.new w 25 #[.int .i64 i.kind, .bool false, .string i.text, .slice none 0 0, .slice none 0 0]
    replace HP := Lib.hid (HP.out.on hb)
    have HB := Lib.hid hb
    clear hb
    generalize (w.alloc (.cells #[.int .i64 i.kind, .bool false, .string i.text, .slice none 0 0, .slice none 0 0] 25)) = w1 at *
    have y0 := hX.c 0 rfl
    have y1 := hX.c 1 rfl
    have y2 := hX.c 2 rfl
    have y3 := hX.c 3 rfl
    have y4 := hX.c 4 rfl
    go_wp2_with fail
    rw [← HPB.out]
    refine (none_s w1 HP.out).mono ?_
    rintro e w2 ⟨rfl, rfl⟩
    go_wp2_with fail
    refine (HS.out w1 HP.out.ml).mono ?_
    rintro e w2 ⟨rfl, hb⟩
    clear y0 y1 y2 y3 y4
    replace hX := hX.on hb
    replace HP := Lib.hid (HP.out.on hb)
    replace HB := Lib.hid (HB.out.trans (hb.mono HB.out.size))
    clear hb
    have y0 := hX.c 0 rfl
    have y1 := hX.c 1 rfl
    have y2 := hX.c 2 rfl
    have y3 := hX.c 3 rfl
    have y4 := hX.c 4 rfl
    go_wp2_with fail
    refine (waiting_s i w2 HP.out HI.out).mono ?_
    rintro e w3 ⟨rfl, hb⟩
    rw [HO.out]
    have hx : ix (some k) = (k : Int) := rfl
    rw [hx]
    clear hx
    clear y0 y1 y2 y3 y4
    replace hX := hX.on hb
    replace HP := Lib.hid (HP.out.on hb)
    replace HB := Lib.hid (HB.out.trans (hb.mono HB.out.size))
    clear hb
    have y0 := hX.c 0 rfl
    have y1 := hX.c 1 rfl
    have y2 := hX.c 2 rfl
    have y3 := hX.c 3 rfl
    have y4 := hX.c 4 rfl
    have c0 := HP.out.box.c 0 rfl
    go_wp2_with fail
    refine (del_s s.q B k (k : Int) ((k : Int) + 1) h.qv w3 HP.out.q HP.out.le hk rfl rfl).mono ?_
    rintro e w4 ⟨g, cap, hqv, rfl, hown, hbt⟩
    have HBT := Lib.hid hbt
    have HOWN := Lib.hid hown
    have hgq : h.qv.ownBlock = some g := by rw [hqv]; rfl
    have hf : BK w4 h.pb 200 #[h.qv, .slice (some ⟨h.wb, 0, none⟩) h.js.length h.js.length] := HP.out.box.but HBT.out (fun e => HP.out.pq (hgq.trans (congrArg some e.symm)))
    clear y0 y1 y2 y3 y4 hX c0 hown hbt
    have c0 := hf.c 0 rfl
    have f0 := hf.fr 0
    have HGQ := Lib.hid hgq
    clear hf hgq hqv
    go_wp2
    go_ret2
    have hel : (s.q.eraseIdx k).length = s.q.length - 1 := by rw [List.length_eraseIdx_of_lt hk]
    obtain ⟨hr1, hr2⟩ := PM.requeue (q' := s.q.eraseIdx k) (v' := .slice (some ⟨g, 0, none⟩) (s.q.length - 1) cap) (w1 := w4) HP.out HOWN.out (by omega) (fun a ha => HP.out.okq a (List.mem_of_mem_eraseIdx ha))
      (fun b' hb' => .inl (by have e : g = b' := by simpa [Value.ownBlock] using hb'
                              rw [← e]; exact HGQ.out)) HBT.out.os HBT.out.tape HBT.out.output HBT.out.size (fun b' hb' hn => HBT.out.block b' hb' (fun e => hn (by rw [e]; exact HGQ.out)))
    exact ⟨{ h with qv := .slice (some ⟨g, 0, none⟩) (s.q.length - 1) cap }, rfl, rfl, hr1, (Mv.of HB.out).trans hr2⟩
  | none =>
    have HO := Lib.hid ho
    cases hu : s.under i with
    | some k =>
      have e1 : s.cancel i = (false, ⟨s.q, s.us.modify k (Option.map (fun j => { j with can := true }))⟩) := by unfold Pst.cancel; rw [ho, hu]
      rw [e1]
      dsimp only
      have HU := Lib.hid hu
      obtain ⟨u, hj, hp⟩ := Pst.findIdx_get hu
      obtain ⟨j, rfl⟩ : ∃ j, u = some j := by cases u with
        | none => cases hp
        | some j => exact ⟨j, rfl⟩
      have hk : k < h.js.length := by rw [← hlen]; exact (List.getElem?_eq_some_iff.1 hj).1
      have HJ := Lib.hid hj
      clear ho hu e1 hj hp
      go_enter Tryz.func118, Tryz.ntmps118
      go_upto_region 1 with (fail)
      have hb := made_end' w (.cells #[.int .i64 i.kind, .bool false, .string i.text, .slice none 0 0, .slice none 0 0] 25)
      have hX := BK.new w 25 #[.int .i64 i.kind, .bool false, .string i.text, .slice none 0 0, .slice none 0 0]
      replace HP := Lib.hid (HP.out.on hb)
      have HB := Lib.hid hb
      clear hb
      generalize (w.alloc (.cells #[.int .i64 i.kind, .bool false, .string i.text, .slice none 0 0, .slice none 0 0] 25)) = w1 at *
      have y0 := hX.c 0 rfl
      have y1 := hX.c 1 rfl
      have y2 := hX.c 2 rfl
      have y3 := hX.c 3 rfl
      have y4 := hX.c 4 rfl
      go_wp2_with fail
      rw [← HPB.out]
      refine (none_s w1 HP.out).mono ?_
      rintro e w2 ⟨rfl, rfl⟩
      go_wp2_with fail
      refine (HS.out w1 HP.out.ml).mono ?_
      rintro e w2 ⟨rfl, hb⟩
      clear y0 y1 y2 y3 y4
      replace hX := hX.on hb
      replace HP := Lib.hid (HP.out.on hb)
      replace HB := Lib.hid (HB.out.trans (hb.mono HB.out.size))
      clear hb
      have y0 := hX.c 0 rfl
      have y1 := hX.c 1 rfl
      have y2 := hX.c 2 rfl
      have y3 := hX.c 3 rfl
      have y4 := hX.c 4 rfl
      go_wp2_with fail
      refine (waiting_s i w2 HP.out HI.out).mono ?_
      rintro e w3 ⟨rfl, hb⟩
      rw [HO.out]
      have hx : ix (none) = (-1 : Int) := rfl
      rw [hx]
      clear hx
      clear y0 y1 y2 y3 y4
      replace hX := hX.on hb
      replace HP := Lib.hid (HP.out.on hb)
      replace HB := Lib.hid (HB.out.trans (hb.mono HB.out.size))
      clear hb
      have y0 := hX.c 0 rfl
      have y1 := hX.c 1 rfl
      have y2 := hX.c 2 rfl
      have y3 := hX.c 3 rfl
      have y4 := hX.c 4 rfl
      go_wp2_with fail
      refine (under_s i w3 HP.out HI.out).mono ?_
      rintro e w4 ⟨rfl, hb⟩
      rw [HU.out]
      have hx : ix (some k) = (k : Int) := rfl
      rw [hx]
      clear hx
      clear y0 y1 y2 y3 y4
      replace hX := hX.on hb
      replace HP := Lib.hid (HP.out.on hb)
      replace HB := Lib.hid (HB.out.trans (hb.mono HB.out.size))
      clear hb
      have y0 := hX.c 0 rfl
      have y1 := hX.c 1 rfl
      have y2 := hX.c 2 rfl
      have y3 := hX.c 3 rfl
      have y4 := hX.c 4 rfl
      have c1 := HP.out.box.c 1 rfl
      obtain ⟨o, hoj⟩ : ∃ o, h.js[k]? = some o := ⟨_, List.getElem?_eq_getElem hk⟩
      have hUJ := HP.out.us k
      rw [hoj, HJ.out] at hUJ
      obtain ⟨b, rfl⟩ : ∃ b, o = some b := by cases o with
        | none => exact hUJ.elim
        | some b => exact ⟨b, rfl⟩
      have hbj : BK w4 b 203 (jc Value.string j).toArray := hUJ
      have hx : w4.cell? ⟨h.wb, k, none⟩ = some (.pointer (some ⟨b, 0, none⟩)) := HP.out.ws.c k (by simp [hoj]; rfl)
      have c8 : w4.cell? ⟨b, 8, none⟩ = some (.bool j.can) := hbj.c 8 rfl
      have f8 := hbj.fr 8
      have i1 : (0 : Int) ≤ (k : Int) := by omega
      have i2 : (k : Int) < (h.js.length : Int) := by omega
      have HOJ := Lib.hid hoj
      clear y0 y1 y2 y3 y4 hX hUJ hbj hoj hk
      go_wp2
      go_ret2
      obtain ⟨hr1, hr2⟩ := HP.out.mark HOJ.out HJ.out
      exact ⟨h, rfl, rfl, hr1, (Mv.of HB.out).trans hr2⟩
    | none =>
      have e1 : s.cancel i = (false, s) := by unfold Pst.cancel; rw [ho, hu]
      rw [e1]
      dsimp only
      have HU := Lib.hid hu
      clear ho hu e1
      go_enter Tryz.func118, Tryz.ntmps118
      go_upto_region 1 with (fail)
      have hb := made_end' w (.cells #[.int .i64 i.kind, .bool false, .string i.text, .slice none 0 0, .slice none 0 0] 25)
      have hX := BK.new w 25 #[.int .i64 i.kind, .bool false, .string i.text, .slice none 0 0, .slice none 0 0]
      replace HP := Lib.hid (HP.out.on hb)
      have HB := Lib.hid hb
      clear hb
      generalize (w.alloc (.cells #[.int .i64 i.kind, .bool false, .string i.text, .slice none 0 0, .slice none 0 0] 25)) = w1 at *
      have y0 := hX.c 0 rfl
      have y1 := hX.c 1 rfl
      have y2 := hX.c 2 rfl
      have y3 := hX.c 3 rfl
      have y4 := hX.c 4 rfl
      go_wp2_with fail
      rw [← HPB.out]
      refine (none_s w1 HP.out).mono ?_
      rintro e w2 ⟨rfl, rfl⟩
      go_wp2_with fail
      refine (HS.out w1 HP.out.ml).mono ?_
      rintro e w2 ⟨rfl, hb⟩
      clear y0 y1 y2 y3 y4
      replace hX := hX.on hb
      replace HP := Lib.hid (HP.out.on hb)
      replace HB := Lib.hid (HB.out.trans (hb.mono HB.out.size))
      clear hb
      have y0 := hX.c 0 rfl
      have y1 := hX.c 1 rfl
      have y2 := hX.c 2 rfl
      have y3 := hX.c 3 rfl
      have y4 := hX.c 4 rfl
      go_wp2_with fail
      refine (waiting_s i w2 HP.out HI.out).mono ?_
      rintro e w3 ⟨rfl, hb⟩
      rw [HO.out]
      have hx : ix (none) = (-1 : Int) := rfl
      rw [hx]
      clear hx
      clear y0 y1 y2 y3 y4
      replace hX := hX.on hb
      replace HP := Lib.hid (HP.out.on hb)
      replace HB := Lib.hid (HB.out.trans (hb.mono HB.out.size))
      clear hb
      have y0 := hX.c 0 rfl
      have y1 := hX.c 1 rfl
      have y2 := hX.c 2 rfl
      have y3 := hX.c 3 rfl
      have y4 := hX.c 4 rfl
      go_wp2_with fail
      refine (under_s i w3 HP.out HI.out).mono ?_
      rintro e w4 ⟨rfl, hb⟩
      rw [HU.out]
      have hx : ix (none) = (-1 : Int) := rfl
      rw [hx]
      clear hx
      clear y0 y1 y2 y3 y4
      replace hX := hX.on hb
      replace HP := Lib.hid (HP.out.on hb)
      replace HB := Lib.hid (HB.out.trans (hb.mono HB.out.size))
      clear hb
      have y0 := hX.c 0 rfl
      have y1 := hX.c 1 rfl
      have y2 := hX.c 2 rfl
      have y3 := hX.c 3 rfl
      have y4 := hX.c 4 rfl
      go_wp2
      go_ret2
      exact PO.from_s HB.out (HP.out.read rfl (Below.refl _ _))
end Go.Proofs.YtfploakafbnigaaGreatDoor
