/-
  Layer 28, the walks: what only reads a pool.
-/
import Derived.Test.YtfploakafbnigaaGreatDoorCPoolMem
import Derived.Deep.LoopGhost
namespace Go.Proofs.YtfploakafbnigaaGreatDoor
open Go.RowKit Val Pl YtfploakafbnigaaGreatDoorW.PrintLast
set_option linter.unusedVariables false
set_option linter.unusedSimpArgs false
def ix : Option Nat → Int
  | some i => i
  | none => -1
theorem find_miss {α : Type} {p : α → Bool} {l : List α} {k : Nat} {y : α} (hy : l[k]? = some y) (hp : p y = false) (hm : (l.take k).findIdx? p = none) : (l.take (k + 1)).findIdx? p = none := by
  have hk := (List.getElem?_eq_some_iff.1 hy).1
  have e : l.take (k + 1) = l.take k ++ [y] := by
    rw [List.take_succ_eq_append_getElem hk]; congr 2; exact (List.getElem?_eq_some_iff.1 hy).2
  rw [e, List.findIdx?_append, hm]; simp [List.findIdx?_cons, hp]
theorem find_hit {α : Type} {p : α → Bool} {l : List α} {k : Nat} {y : α} (hy : l[k]? = some y) (hp : p y = true) (hm : (l.take k).findIdx? p = none) : l.findIdx? p = some k := by
  have hk := (List.getElem?_eq_some_iff.1 hy).1
  have e : l = l.take k ++ y :: l.drop (k + 1) := by
    have h1 := List.take_append_drop k l
    rw [List.drop_eq_getElem_cons hk, (List.getElem?_eq_some_iff.1 hy).2] at h1
    exact h1.symm
  rw [e, List.findIdx?_append, hm]
  have : (l.take k).length = k := by rw [List.length_take]; omega
  simp [List.findIdx?_cons, hp]; omega
/-- a pool of int in memory -/
abbrev PMi (B : Nat) (s : Pst Int) (h : PH) (w : World) : Prop := PM (Value.int .i64) 132 86 136 B s h w
set_option maxRecDepth 100000 in
set_option maxHeartbeats 4000000 in
theorem none_i {B : Nat} {s : Pst Int} {h : PH} (w : World) (p : PMi B s h w) : Calls Tryz.prog 104 #[.pointer (some ⟨h.pb, 0, none⟩)] w fun e w' => e = .returned (.bool false) ∧ w = w' := by
  have c1 := p.box.c 1 rfl
  have hn := p.many
  obtain ⟨pb, wb, qv, js⟩ := h
  dsimp only at c1 hn ⊢
  generalize js.length = n at c1 hn
  have d0 : ((n : Int) == 0) = false := by rw [beq_eq_false_iff_ne]; omega
  have d1 : (n == 0) = false := by rw [beq_eq_false_iff_ne]; omega
  have d2 : ¬ n = 0 := by omega
  clear p hn
  go_enter Tryz.func104, Tryz.ntmps104
  go_wp2
  go_ret
  exact ⟨rfl, rfl⟩
set_option maxRecDepth 100000 in
set_option maxHeartbeats 4000000 in
theorem is_i (j : Job Int) (i : LId) (w : World) (hj : okj j) (hi : LId.ok i) (hM : ML w) : Calls Tryz.prog 157 #[.agg (jc (Value.int .i64) j).toArray, .agg (LId.cells i).toArray] w (Made (.bool (Pst.isJ i j)) w) := by
  have HS := Lib.hid (fun W (hb : Below w.heap.size w W) => sameId_any j.id.vt i.vt (zLt 0) (zLt 0) _ _ W (leaf_VLV hj) (leaf_VLV hi) (hM.on hb) (by have := hj.2; rw [leaf_bulk]; omega) (by have := hi.2; rw [leaf_bulk]; omega))
  have HI : Hid (Pst.isJ i j = (j.call && j.id.vt.sameId i.vt)) := Lib.hid rfl
  generalize Pst.isJ i j = R at *
  generalize j.id.vt.sameId i.vt = q at *
  obtain ⟨cl, ⟨jk, jt⟩, nm, x, can⟩ := j
  obtain ⟨ik, it⟩ := i
  dsimp only at HS HI
  unfold jc LId.cells
  dsimp only
  clear hj hi hM
  cases cl
  · have HR : Hid (R = false) := Lib.hid (by rw [HI.out]; rfl)
    go_enter Tryz.func157, Tryz.ntmps157
    go_wp2
    go_ret
    exact ⟨ret_bool' HR.out.symm, al2_below w _ _⟩
  · have HR : Hid (R = q) := Lib.hid (by rw [HI.out]; rfl)
    go_enter Tryz.func157, Tryz.ntmps157
    go_wp2_with fail
    refine at2 (fun W hX hY hB hz => ?_)
    refine (HS.out W hB).mono ?_
    rintro e w2 ⟨rfl, hb⟩
    have HB := Lib.hid (hB.trans (hb.mono hB.size))
    clear hX hY hb hB hz
    go_wp2
    go_ret
    exact ⟨ret_bool' HR.out.symm, HB.out⟩
set_option maxRecDepth 100000 in
set_option maxHeartbeats 4000000 in
theorem wclo_i (j : Job Int) (i : LId) (g : Nat) (w : World) (hj : okj j) (hi : LId.ok i) (hM : ML w) (hg : BK w g 25 (LId.cells i).toArray) : Calls Tryz.prog 156 #[.agg (jc (Value.int .i64) j).toArray, .pointer (some ⟨g, 0, none⟩)] w (Made (.bool (Pst.isJ i j)) w) := by
  have HI := Lib.hid (fun W (hb : Below w.heap.size w W) => is_i j i W hj hi (hM.on hb))
  generalize Pst.isJ i j = R at *
  unfold jc LId.cells at *
  clear hj hi hM
  go_enter Tryz.func156, Tryz.ntmps156
  go_upto_region 1 with (fail)
  have hb := made_end' w (.cells #[.bool j.call, .int .i64 j.id.kind, .bool false, .string j.id.text, .slice none 0 0, .slice none 0 0, .string j.name, (Value.int .i64) j.x, .bool j.can] 132)
  have hX := BK.new w 132 #[.bool j.call, .int .i64 j.id.kind, .bool false, .string j.id.text, .slice none 0 0, .slice none 0 0, .string j.name, (Value.int .i64) j.x, .bool j.can]
  replace hg := hg.on hb
  have HB := Lib.hid hb
  clear hb
  generalize (w.alloc (.cells #[.bool j.call, .int .i64 j.id.kind, .bool false, .string j.id.text, .slice none 0 0, .slice none 0 0, .string j.name, (Value.int .i64) j.x, .bool j.can] 132)) = w1 at *
  have x0 := hX.c 0 rfl
  have x1 := hX.c 1 rfl
  have x2 := hX.c 2 rfl
  have x3 := hX.c 3 rfl
  have x4 := hX.c 4 rfl
  have x5 := hX.c 5 rfl
  have x6 := hX.c 6 rfl
  have x7 := hX.c 7 rfl
  have x8 := hX.c 8 rfl
  have y0 := hg.c 0 rfl
  have y1 := hg.c 1 rfl
  have y2 := hg.c 2 rfl
  have y3 := hg.c 3 rfl
  have y4 := hg.c 4 rfl
  clear hX hg
  go_wp2_with fail
  refine (HI.out w1 HB.out).mono ?_
  rintro e w2 ⟨rfl, hb⟩
  replace HB := Lib.hid (HB.out.trans (hb.mono HB.out.size))
  clear hb x0 x1 x2 x3 x4 x5 x6 x7 x8 y0 y1 y2 y3 y4
  go_wp2
  go_ret
  exact ⟨rfl, HB.out⟩
set_option maxRecDepth 100000 in
set_option maxHeartbeats 4000000 in
theorem nclo_i (j : Job Int) (nm : ByteArray) (g : Nat) (w : World) (hg : BK w g 9 #[.string nm]) : Calls Tryz.prog 155 #[.agg (jc (Value.int .i64) j).toArray, .pointer (some ⟨g, 0, none⟩)] w (Made (.bool (Pst.isN nm j)) w) := by
  have HI : Hid (Pst.isN nm j = (!j.call && decide (j.name = nm))) := Lib.hid rfl
  generalize Pst.isN nm j = R at *
  obtain ⟨cl, ⟨jk, jt⟩, jn, x, can⟩ := j
  dsimp only at HI
  unfold jc
  dsimp only
  go_enter Tryz.func155, Tryz.ntmps155
  go_upto_region 1 with (fail)
  have hb := made_end' w (.cells #[.bool cl, .int .i64 jk, .bool false, .string jt, .slice none 0 0, .slice none 0 0, .string jn, (Value.int .i64) x, .bool can] 132)
  have hX := BK.new w 132 #[.bool cl, .int .i64 jk, .bool false, .string jt, .slice none 0 0, .slice none 0 0, .string jn, (Value.int .i64) x, .bool can]
  replace hg := hg.on hb
  have HB := Lib.hid hb
  clear hb
  generalize (w.alloc (.cells #[.bool cl, .int .i64 jk, .bool false, .string jt, .slice none 0 0, .slice none 0 0, .string jn, (Value.int .i64) x, .bool can] 132)) = w1 at *
  have x0 := hX.c 0 rfl
  have x6 := hX.c 6 rfl
  have y0 := hg.c 0 rfl
  clear hX hg
  cases cl
  · by_cases q : jn = nm
    · subst q
      have HR : Hid (R = true) := Lib.hid (by rw [HI.out]; simp)
      go_wp2
      go_ret
      exact ⟨ret_bool' (by rw [HR.out]; try simp), HB.out⟩
    · obtain ⟨e1, e2⟩ := str_ne q
      have HR : Hid (R = false) := Lib.hid (by rw [HI.out, decide_eq_false q]; rfl)
      clear q
      go_wp2
      go_ret
      exact ⟨ret_bool' HR.out.symm, HB.out⟩
  · have HR : Hid (R = false) := Lib.hid (by rw [HI.out]; rfl)
    go_wp2
    go_ret
    exact ⟨ret_bool' HR.out.symm, HB.out⟩
/-- the row that a queue is, element by element -/
theorem own_row_i {B : Nat} {v : Value} {zs : List (Job Int)} {w : World} (hq : w.ownsRow B 132 9 v zs.length (jcs (Value.int .i64) zs)) : ∃ A cap, v = .slice A zs.length cap ∧ (zs ≠ [] → ∃ g, A = some ⟨g, 0, none⟩ ∧ g < w.heap.size ∧ B ≤ g ∧ ∀ i j, zs[i]? = some j → ∀ k u, (jc (Value.int .i64) j)[k]? = some u → w.cell? ⟨g, i * 9 + k, none⟩ = some u) := by
  rcases hq.2 with ⟨rfl, h0⟩ | ⟨g, cap, cur, rfl, hB, hg, hn, hc, hs, ht⟩
  · exact ⟨none, 0, by rw [h0], fun hne => absurd (List.eq_nil_of_length_eq_zero h0) hne⟩
  · refine ⟨some ⟨g, 0, none⟩, cap, rfl, fun _ => ⟨g, rfl, (Array.getElem?_eq_some_iff.1 hg).1, hB, fun i j hi k u hu => ?_⟩⟩
    have hk : k < 9 := by have := (List.getElem?_eq_some_iff.1 hu).1; rw [jc_len] at this; exact this
    have h1 := jcs_get (Value.int .i64) zs i k j hi hk
    rw [hu, ← ht, List.getElem?_take] at h1
    have hil := (List.getElem?_eq_some_iff.1 hi).1
    rw [if_pos (by omega)] at h1
    rw [cell_of_row w g (i * 9 + k) _ _ _ hg]
    simpa using h1
set_option maxRecDepth 100000 in
set_option maxHeartbeats 4000000 in
theorem ixf_i (zs : List (Job Int)) (v : Value) (B g : Nat) (lb : Array Value) (p : Job Int → Bool) (w : World) (hq : w.ownsRow B 132 9 v zs.length (jcs (Value.int .i64) zs)) (hl : zs.length ≤ 64)
    (eg : ∀ args w, (callFunc g args).run Tryz.prog w = .ok (.enter g args) w)
    (hp : ∀ W j, j ∈ zs → Below w.heap.size w W → Calls Tryz.prog g (#[.agg (jc (Value.int .i64) j).toArray] ++ lb) W (Made (.bool (p j)) W)) :
    Calls Tryz.prog 154 #[v, .func (.func g) #[] lb] w (Made (.int .i64 (ix (zs.findIdx? p))) w) := by
  obtain ⟨A, cap, rfl, hA⟩ := own_row_i hq
  clear hq
  have HA := Lib.hid hA
  have HP := Lib.hid hp
  obtain ⟨n, hn⟩ : ∃ n, zs.length = n := ⟨_, rfl⟩
  have HN := Lib.hid hn
  rw [hn] at hl ⊢
  clear hA hp hn
  go_enter Tryz.func154, Tryz.ntmps154
  go_wp2
  go_loopg [5, 8] n (fun gg _ s8 wr => ∃ kk : Nat, kk ≤ n ∧ n - kk ≤ gg ∧ s8 = .int .i64 kk ∧ Hid (Below w.heap.size w wr) ∧ Hid ((zs.take kk).findIdx? p = none))
  case atStart => exact ⟨0, Nat.zero_le _, by omega, rfl, Lib.hid (Below.refl _ w), Lib.hid (by simp)⟩
  case round =>
    obtain ⟨kk, hkk, hg, rfl, BW, MISS⟩ := hrel
    by_cases hlt : kk < n
    · have hltz : (kk : Int) < (n : Int) := by omega
      obtain ⟨y, hy⟩ : ∃ y, zs[kk]? = some y := ⟨_, List.getElem?_eq_getElem (by rw [HN.out]; exact hlt)⟩
      obtain ⟨b, rfl, hbl, -, hc⟩ := HA.out (by intro e; rw [e] at hy; cases hy)
      have hcell : ∀ k u, (jc (Value.int .i64) y)[k]? = some u → wr.cell? ⟨b, kk * 9 + k, none⟩ = some u := fun k u hu => (BW.out.cell (p := ⟨b, kk * 9 + k, none⟩) hbl).trans (hc kk y hy k u hu)
      have hcall := HP.out wr y (List.mem_iff_getElem?.2 ⟨kk, hy⟩) BW.out
      have HY := Lib.hid hy
      have x0 : wr.cell? ⟨b, kk * 9, none⟩ = _ := hcell 0 _ rfl
      have x1 := hcell 1 _ rfl
      have x2 := hcell 2 _ rfl
      have x3 := hcell 3 _ rfl
      have x4 := hcell 4 _ rfl
      have x5 := hcell 5 _ rfl
      have x6 := hcell 6 _ rfl
      have x7 := hcell 7 _ rfl
      have x8 := hcell 8 _ rfl
      clear hcell hc hy
      unfold jc at hcall
      cases hq : p y with
      | true =>
        rw [hq] at hcall
        have HQ := Lib.hid hq
        clear hq
        go_wp2_with (go_at_fn g; refine hcall.mono ?_; rintro e w' ⟨rfl, hb'⟩)
        go_ret
        refine ⟨?_, BW.out.trans (hb'.mono BW.out.size)⟩
        rw [find_hit HY.out HQ.out MISS.out]; rfl
      | false =>
        rw [hq] at hcall
        have HQ := Lib.hid hq
        clear hq
        go_wp2_with (go_at_fn g; refine hcall.mono ?_; rintro e w' ⟨rfl, hb'⟩)
        go_roundg (n - (kk + 1))
        case measure => omega
        case rel => exact ⟨kk + 1, by omega, by omega, by go_num, Lib.hid (BW.out.trans (hb'.mono BW.out.size)), Lib.hid (find_miss HY.out HQ.out MISS.out)⟩
    · have hltz : ¬ (kk : Int) < (n : Int) := by omega
      have : kk = n := by omega
      subst this
      go_wp2
      go_ret
      refine ⟨?_, BW.out⟩
      have := MISS.out
      rw [List.take_of_length_le (by rw [HN.out]; exact Nat.le_refl _)] at this
      rw [this]; rfl
set_option maxRecDepth 100000 in
set_option maxHeartbeats 4000000 in
theorem waiting_i {B : Nat} {s : Pst Int} {h : PH} (i : LId) (w : World) (p : PMi B s h w) (hi : LId.ok i) : Calls Tryz.prog 110 #[.pointer (some ⟨h.pb, 0, none⟩), .agg (LId.cells i).toArray] w (Made (.int .i64 (ix (s.waiting i))) w) := by
  have c0 := p.box.c 0 rfl
  have hlt := p.box.lt
  have HX := Lib.hid (fun W g (hb : Below w.heap.size w W) (hg : BK W g 25 (LId.cells i).toArray) => ixf_i s.q h.qv B 156 #[.pointer (some ⟨g, 0, none⟩)] (Pst.isJ i) W (p.on hb).q p.le (fun _ _ => by kernel_rfl) (fun W2 j hj hb2 => wclo_i j i g W2 (p.okq j hj) hi ((p.ml.on hb).on hb2) (hg.on hb2)))
  change Hid (∀ W g, Below w.heap.size w W → BK W g 25 (LId.cells i).toArray → Calls Tryz.prog 154 #[h.qv, .func (.func 156) #[] #[.pointer (some ⟨g, 0, none⟩)]] W (Made (.int .i64 (ix (s.waiting i))) W)) at HX
  generalize ix (s.waiting i) = R at *
  generalize h.qv = qv at *
  generalize h.pb = pb at *
  clear p hi
  unfold LId.cells at *
  go_enter Tryz.func110, Tryz.ntmps110
  go_wp2_with fail
  refine at1 (fun W hX hB hz => ?_)
  refine (HX.out W _ hB hX).mono ?_
  rintro e w2 ⟨rfl, hb⟩
  have HB := Lib.hid (hB.trans (hb.mono hB.size))
  clear hX hb hB hz
  go_wp2
  go_ret
  exact ⟨rfl, HB.out⟩
set_option maxRecDepth 100000 in
set_option maxHeartbeats 4000000 in
theorem note_i {B : Nat} {s : Pst Int} {h : PH} (nm : ByteArray) (w : World) (p : PMi B s h w) : Calls Tryz.prog 107 #[.pointer (some ⟨h.pb, 0, none⟩), .string nm] w (Made (.int .i64 (ix (s.noteAt nm))) w) := by
  have c0 := p.box.c 0 rfl
  have hlt := p.box.lt
  have HX := Lib.hid (fun W g (hb : Below w.heap.size w W) (hg : BK W g 9 #[.string nm]) => ixf_i s.q h.qv B 155 #[.pointer (some ⟨g, 0, none⟩)] (Pst.isN nm) W (p.on hb).q p.le (fun _ _ => by kernel_rfl) (fun W2 j hj hb2 => nclo_i j nm g W2 (hg.on hb2)))
  change Hid (∀ W g, Below w.heap.size w W → BK W g 9 #[.string nm] → Calls Tryz.prog 154 #[h.qv, .func (.func 155) #[] #[.pointer (some ⟨g, 0, none⟩)]] W (Made (.int .i64 (ix (s.noteAt nm))) W)) at HX
  generalize ix (s.noteAt nm) = R at *
  generalize h.qv = qv at *
  generalize h.pb = pb at *
  clear p
  go_enter Tryz.func107, Tryz.ntmps107
  go_wp2_with fail
  refine at1 (fun W hX hB hz => ?_)
  refine (HX.out W _ hB hX).mono ?_
  rintro e w2 ⟨rfl, hb⟩
  have HB := Lib.hid (hB.trans (hb.mono hB.size))
  clear hX hb hB hz
  go_wp2
  go_ret
  exact ⟨rfl, HB.out⟩
/-- a pool of string in memory -/
abbrev PMs (B : Nat) (s : Pst ByteArray) (h : PH) (w : World) : Prop := PM Value.string 203 200 204 B s h w
set_option maxRecDepth 100000 in
set_option maxHeartbeats 4000000 in
theorem none_s {B : Nat} {s : Pst ByteArray} {h : PH} (w : World) (p : PMs B s h w) : Calls Tryz.prog 160 #[.pointer (some ⟨h.pb, 0, none⟩)] w fun e w' => e = .returned (.bool false) ∧ w = w' := by
  have c1 := p.box.c 1 rfl
  have hn := p.many
  obtain ⟨pb, wb, qv, js⟩ := h
  dsimp only at c1 hn ⊢
  generalize js.length = n at c1 hn
  have d0 : ((n : Int) == 0) = false := by rw [beq_eq_false_iff_ne]; omega
  have d1 : (n == 0) = false := by rw [beq_eq_false_iff_ne]; omega
  have d2 : ¬ n = 0 := by omega
  clear p hn
  go_enter Tryz.func160, Tryz.ntmps160
  go_wp2
  go_ret
  exact ⟨rfl, rfl⟩
set_option maxRecDepth 100000 in
set_option maxHeartbeats 4000000 in
theorem is_s (j : Job ByteArray) (i : LId) (w : World) (hj : okj j) (hi : LId.ok i) (hM : ML w) : Calls Tryz.prog 199 #[.agg (jc Value.string j).toArray, .agg (LId.cells i).toArray] w (Made (.bool (Pst.isJ i j)) w) := by
  have HS := Lib.hid (fun W (hb : Below w.heap.size w W) => sameId_any j.id.vt i.vt (zLt 0) (zLt 0) _ _ W (leaf_VLV hj) (leaf_VLV hi) (hM.on hb) (by have := hj.2; rw [leaf_bulk]; omega) (by have := hi.2; rw [leaf_bulk]; omega))
  have HI : Hid (Pst.isJ i j = (j.call && j.id.vt.sameId i.vt)) := Lib.hid rfl
  generalize Pst.isJ i j = R at *
  generalize j.id.vt.sameId i.vt = q at *
  obtain ⟨cl, ⟨jk, jt⟩, nm, x, can⟩ := j
  obtain ⟨ik, it⟩ := i
  dsimp only at HS HI
  unfold jc LId.cells
  dsimp only
  clear hj hi hM
  cases cl
  · have HR : Hid (R = false) := Lib.hid (by rw [HI.out]; rfl)
    go_enter Tryz.func199, Tryz.ntmps199
    go_wp2
    go_ret
    exact ⟨ret_bool' HR.out.symm, al2_below w _ _⟩
  · have HR : Hid (R = q) := Lib.hid (by rw [HI.out]; rfl)
    go_enter Tryz.func199, Tryz.ntmps199
    go_wp2_with fail
    refine at2 (fun W hX hY hB hz => ?_)
    refine (HS.out W hB).mono ?_
    rintro e w2 ⟨rfl, hb⟩
    have HB := Lib.hid (hB.trans (hb.mono hB.size))
    clear hX hY hb hB hz
    go_wp2
    go_ret
    exact ⟨ret_bool' HR.out.symm, HB.out⟩
set_option maxRecDepth 100000 in
set_option maxHeartbeats 4000000 in
theorem wclo_s (j : Job ByteArray) (i : LId) (g : Nat) (w : World) (hj : okj j) (hi : LId.ok i) (hM : ML w) (hg : BK w g 25 (LId.cells i).toArray) : Calls Tryz.prog 198 #[.agg (jc Value.string j).toArray, .pointer (some ⟨g, 0, none⟩)] w (Made (.bool (Pst.isJ i j)) w) := by
  have HI := Lib.hid (fun W (hb : Below w.heap.size w W) => is_s j i W hj hi (hM.on hb))
  generalize Pst.isJ i j = R at *
  unfold jc LId.cells at *
  clear hj hi hM
  go_enter Tryz.func198, Tryz.ntmps198
  go_upto_region 1 with (fail)
  have hb := made_end' w (.cells #[.bool j.call, .int .i64 j.id.kind, .bool false, .string j.id.text, .slice none 0 0, .slice none 0 0, .string j.name, Value.string j.x, .bool j.can] 203)
  have hX := BK.new w 203 #[.bool j.call, .int .i64 j.id.kind, .bool false, .string j.id.text, .slice none 0 0, .slice none 0 0, .string j.name, Value.string j.x, .bool j.can]
  replace hg := hg.on hb
  have HB := Lib.hid hb
  clear hb
  generalize (w.alloc (.cells #[.bool j.call, .int .i64 j.id.kind, .bool false, .string j.id.text, .slice none 0 0, .slice none 0 0, .string j.name, Value.string j.x, .bool j.can] 203)) = w1 at *
  have x0 := hX.c 0 rfl
  have x1 := hX.c 1 rfl
  have x2 := hX.c 2 rfl
  have x3 := hX.c 3 rfl
  have x4 := hX.c 4 rfl
  have x5 := hX.c 5 rfl
  have x6 := hX.c 6 rfl
  have x7 := hX.c 7 rfl
  have x8 := hX.c 8 rfl
  have y0 := hg.c 0 rfl
  have y1 := hg.c 1 rfl
  have y2 := hg.c 2 rfl
  have y3 := hg.c 3 rfl
  have y4 := hg.c 4 rfl
  clear hX hg
  go_wp2_with fail
  refine (HI.out w1 HB.out).mono ?_
  rintro e w2 ⟨rfl, hb⟩
  replace HB := Lib.hid (HB.out.trans (hb.mono HB.out.size))
  clear hb x0 x1 x2 x3 x4 x5 x6 x7 x8 y0 y1 y2 y3 y4
  go_wp2
  go_ret
  exact ⟨rfl, HB.out⟩
set_option maxRecDepth 100000 in
set_option maxHeartbeats 4000000 in
theorem nclo_s (j : Job ByteArray) (nm : ByteArray) (g : Nat) (w : World) (hg : BK w g 9 #[.string nm]) : Calls Tryz.prog 197 #[.agg (jc Value.string j).toArray, .pointer (some ⟨g, 0, none⟩)] w (Made (.bool (Pst.isN nm j)) w) := by
  have HI : Hid (Pst.isN nm j = (!j.call && decide (j.name = nm))) := Lib.hid rfl
  generalize Pst.isN nm j = R at *
  obtain ⟨cl, ⟨jk, jt⟩, jn, x, can⟩ := j
  dsimp only at HI
  unfold jc
  dsimp only
  go_enter Tryz.func197, Tryz.ntmps197
  go_upto_region 1 with (fail)
  have hb := made_end' w (.cells #[.bool cl, .int .i64 jk, .bool false, .string jt, .slice none 0 0, .slice none 0 0, .string jn, Value.string x, .bool can] 203)
  have hX := BK.new w 203 #[.bool cl, .int .i64 jk, .bool false, .string jt, .slice none 0 0, .slice none 0 0, .string jn, Value.string x, .bool can]
  replace hg := hg.on hb
  have HB := Lib.hid hb
  clear hb
  generalize (w.alloc (.cells #[.bool cl, .int .i64 jk, .bool false, .string jt, .slice none 0 0, .slice none 0 0, .string jn, Value.string x, .bool can] 203)) = w1 at *
  have x0 := hX.c 0 rfl
  have x6 := hX.c 6 rfl
  have y0 := hg.c 0 rfl
  clear hX hg
  cases cl
  · by_cases q : jn = nm
    · subst q
      have HR : Hid (R = true) := Lib.hid (by rw [HI.out]; simp)
      go_wp2
      go_ret
      exact ⟨ret_bool' (by rw [HR.out]; try simp), HB.out⟩
    · obtain ⟨e1, e2⟩ := str_ne q
      have HR : Hid (R = false) := Lib.hid (by rw [HI.out, decide_eq_false q]; rfl)
      clear q
      go_wp2
      go_ret
      exact ⟨ret_bool' HR.out.symm, HB.out⟩
  · have HR : Hid (R = false) := Lib.hid (by rw [HI.out]; rfl)
    go_wp2
    go_ret
    exact ⟨ret_bool' HR.out.symm, HB.out⟩
/-- the row that a queue is, element by element -/
theorem own_row_s {B : Nat} {v : Value} {zs : List (Job ByteArray)} {w : World} (hq : w.ownsRow B 203 9 v zs.length (jcs Value.string zs)) : ∃ A cap, v = .slice A zs.length cap ∧ (zs ≠ [] → ∃ g, A = some ⟨g, 0, none⟩ ∧ g < w.heap.size ∧ B ≤ g ∧ ∀ i j, zs[i]? = some j → ∀ k u, (jc Value.string j)[k]? = some u → w.cell? ⟨g, i * 9 + k, none⟩ = some u) := by
  rcases hq.2 with ⟨rfl, h0⟩ | ⟨g, cap, cur, rfl, hB, hg, hn, hc, hs, ht⟩
  · exact ⟨none, 0, by rw [h0], fun hne => absurd (List.eq_nil_of_length_eq_zero h0) hne⟩
  · refine ⟨some ⟨g, 0, none⟩, cap, rfl, fun _ => ⟨g, rfl, (Array.getElem?_eq_some_iff.1 hg).1, hB, fun i j hi k u hu => ?_⟩⟩
    have hk : k < 9 := by have := (List.getElem?_eq_some_iff.1 hu).1; rw [jc_len] at this; exact this
    have h1 := jcs_get Value.string zs i k j hi hk
    rw [hu, ← ht, List.getElem?_take] at h1
    have hil := (List.getElem?_eq_some_iff.1 hi).1
    rw [if_pos (by omega)] at h1
    rw [cell_of_row w g (i * 9 + k) _ _ _ hg]
    simpa using h1
set_option maxRecDepth 100000 in
set_option maxHeartbeats 4000000 in
theorem ixf_s (zs : List (Job ByteArray)) (v : Value) (B g : Nat) (lb : Array Value) (p : Job ByteArray → Bool) (w : World) (hq : w.ownsRow B 203 9 v zs.length (jcs Value.string zs)) (hl : zs.length ≤ 64)
    (eg : ∀ args w, (callFunc g args).run Tryz.prog w = .ok (.enter g args) w)
    (hp : ∀ W j, j ∈ zs → Below w.heap.size w W → Calls Tryz.prog g (#[.agg (jc Value.string j).toArray] ++ lb) W (Made (.bool (p j)) W)) :
    Calls Tryz.prog 196 #[v, .func (.func g) #[] lb] w (Made (.int .i64 (ix (zs.findIdx? p))) w) := by
  obtain ⟨A, cap, rfl, hA⟩ := own_row_s hq
  clear hq
  have HA := Lib.hid hA
  have HP := Lib.hid hp
  obtain ⟨n, hn⟩ : ∃ n, zs.length = n := ⟨_, rfl⟩
  have HN := Lib.hid hn
  rw [hn] at hl ⊢
  clear hA hp hn
  go_enter Tryz.func196, Tryz.ntmps196
  go_wp2
  go_loopg [5, 8] n (fun gg _ s8 wr => ∃ kk : Nat, kk ≤ n ∧ n - kk ≤ gg ∧ s8 = .int .i64 kk ∧ Hid (Below w.heap.size w wr) ∧ Hid ((zs.take kk).findIdx? p = none))
  case atStart => exact ⟨0, Nat.zero_le _, by omega, rfl, Lib.hid (Below.refl _ w), Lib.hid (by simp)⟩
  case round =>
    obtain ⟨kk, hkk, hg, rfl, BW, MISS⟩ := hrel
    by_cases hlt : kk < n
    · have hltz : (kk : Int) < (n : Int) := by omega
      obtain ⟨y, hy⟩ : ∃ y, zs[kk]? = some y := ⟨_, List.getElem?_eq_getElem (by rw [HN.out]; exact hlt)⟩
      obtain ⟨b, rfl, hbl, -, hc⟩ := HA.out (by intro e; rw [e] at hy; cases hy)
      have hcell : ∀ k u, (jc Value.string y)[k]? = some u → wr.cell? ⟨b, kk * 9 + k, none⟩ = some u := fun k u hu => (BW.out.cell (p := ⟨b, kk * 9 + k, none⟩) hbl).trans (hc kk y hy k u hu)
      have hcall := HP.out wr y (List.mem_iff_getElem?.2 ⟨kk, hy⟩) BW.out
      have HY := Lib.hid hy
      have x0 : wr.cell? ⟨b, kk * 9, none⟩ = _ := hcell 0 _ rfl
      have x1 := hcell 1 _ rfl
      have x2 := hcell 2 _ rfl
      have x3 := hcell 3 _ rfl
      have x4 := hcell 4 _ rfl
      have x5 := hcell 5 _ rfl
      have x6 := hcell 6 _ rfl
      have x7 := hcell 7 _ rfl
      have x8 := hcell 8 _ rfl
      clear hcell hc hy
      unfold jc at hcall
      cases hq : p y with
      | true =>
        rw [hq] at hcall
        have HQ := Lib.hid hq
        clear hq
        go_wp2_with (go_at_fn g; refine hcall.mono ?_; rintro e w' ⟨rfl, hb'⟩)
        go_ret
        refine ⟨?_, BW.out.trans (hb'.mono BW.out.size)⟩
        rw [find_hit HY.out HQ.out MISS.out]; rfl
      | false =>
        rw [hq] at hcall
        have HQ := Lib.hid hq
        clear hq
        go_wp2_with (go_at_fn g; refine hcall.mono ?_; rintro e w' ⟨rfl, hb'⟩)
        go_roundg (n - (kk + 1))
        case measure => omega
        case rel => exact ⟨kk + 1, by omega, by omega, by go_num, Lib.hid (BW.out.trans (hb'.mono BW.out.size)), Lib.hid (find_miss HY.out HQ.out MISS.out)⟩
    · have hltz : ¬ (kk : Int) < (n : Int) := by omega
      have : kk = n := by omega
      subst this
      go_wp2
      go_ret
      refine ⟨?_, BW.out⟩
      have := MISS.out
      rw [List.take_of_length_le (by rw [HN.out]; exact Nat.le_refl _)] at this
      rw [this]; rfl
set_option maxRecDepth 100000 in
set_option maxHeartbeats 4000000 in
theorem waiting_s {B : Nat} {s : Pst ByteArray} {h : PH} (i : LId) (w : World) (p : PMs B s h w) (hi : LId.ok i) : Calls Tryz.prog 166 #[.pointer (some ⟨h.pb, 0, none⟩), .agg (LId.cells i).toArray] w (Made (.int .i64 (ix (s.waiting i))) w) := by
  have c0 := p.box.c 0 rfl
  have hlt := p.box.lt
  have HX := Lib.hid (fun W g (hb : Below w.heap.size w W) (hg : BK W g 25 (LId.cells i).toArray) => ixf_s s.q h.qv B 198 #[.pointer (some ⟨g, 0, none⟩)] (Pst.isJ i) W (p.on hb).q p.le (fun _ _ => by kernel_rfl) (fun W2 j hj hb2 => wclo_s j i g W2 (p.okq j hj) hi ((p.ml.on hb).on hb2) (hg.on hb2)))
  change Hid (∀ W g, Below w.heap.size w W → BK W g 25 (LId.cells i).toArray → Calls Tryz.prog 196 #[h.qv, .func (.func 198) #[] #[.pointer (some ⟨g, 0, none⟩)]] W (Made (.int .i64 (ix (s.waiting i))) W)) at HX
  generalize ix (s.waiting i) = R at *
  generalize h.qv = qv at *
  generalize h.pb = pb at *
  clear p hi
  unfold LId.cells at *
  go_enter Tryz.func166, Tryz.ntmps166
  go_wp2_with fail
  refine at1 (fun W hX hB hz => ?_)
  refine (HX.out W _ hB hX).mono ?_
  rintro e w2 ⟨rfl, hb⟩
  have HB := Lib.hid (hB.trans (hb.mono hB.size))
  clear hX hb hB hz
  go_wp2
  go_ret
  exact ⟨rfl, HB.out⟩
set_option maxRecDepth 100000 in
set_option maxHeartbeats 4000000 in
theorem note_s {B : Nat} {s : Pst ByteArray} {h : PH} (nm : ByteArray) (w : World) (p : PMs B s h w) : Calls Tryz.prog 163 #[.pointer (some ⟨h.pb, 0, none⟩), .string nm] w (Made (.int .i64 (ix (s.noteAt nm))) w) := by
  have c0 := p.box.c 0 rfl
  have hlt := p.box.lt
  have HX := Lib.hid (fun W g (hb : Below w.heap.size w W) (hg : BK W g 9 #[.string nm]) => ixf_s s.q h.qv B 197 #[.pointer (some ⟨g, 0, none⟩)] (Pst.isN nm) W (p.on hb).q p.le (fun _ _ => by kernel_rfl) (fun W2 j hj hb2 => nclo_s j nm g W2 (hg.on hb2)))
  change Hid (∀ W g, Below w.heap.size w W → BK W g 9 #[.string nm] → Calls Tryz.prog 196 #[h.qv, .func (.func 197) #[] #[.pointer (some ⟨g, 0, none⟩)]] W (Made (.int .i64 (ix (s.noteAt nm))) W)) at HX
  generalize ix (s.noteAt nm) = R at *
  generalize h.qv = qv at *
  generalize h.pb = pb at *
  clear p
  go_enter Tryz.func163, Tryz.ntmps163
  go_wp2_with fail
  refine at1 (fun W hX hB hz => ?_)
  refine (HX.out W _ hB hX).mono ?_
  rintro e w2 ⟨rfl, hb⟩
  have HB := Lib.hid (hB.trans (hb.mono hB.size))
  clear hX hb hB hz
  go_wp2
  go_ret
  exact ⟨rfl, HB.out⟩
end Go.Proofs.YtfploakafbnigaaGreatDoor
