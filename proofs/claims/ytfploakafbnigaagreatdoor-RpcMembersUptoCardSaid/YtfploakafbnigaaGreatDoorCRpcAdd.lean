/-
  Layer 12, the walks: Print's closure: one member more.
-/
import Derived.Test.YtfploakafbnigaaGreatDoorCRpcRow
import Derived.Test.YtfploakafbnigaaGreatDoorCPkMkA
import Derived.Test.YtfploakafbnigaaGreatDoorCPkMkB
import Derived.Test.YtfploakafbnigaaGreatDoorWLast
import Derived.Deep.AppendLies
namespace Go.Proofs.YtfploakafbnigaaGreatDoor
open Go.RowKit Val Go.Proofs.YtfploakafbnigaaGreatDoorW.PrintLast
set_option linter.unusedVariables false
set_option linter.unusedSimpArgs false
/-- an object that grows, in the box at w's end: both rows of its own; what stands beside (S, as in W0) -/
structure AdM (w : World) (nv ov cn co : Value) (kn ko : Nat) (ln lo : List Value) (S : Nat → Prop) (W0 W : World) : Prop where
  out : BX W w.heap.size (.int .i64 5) (.bool false) (.string ⟨#[]⟩) ov nv
  below : Below w.heap.size w W
  nown : W.ownsRow (w.heap.size + 1) 9 1 cn kn ln
  oown : W.ownsRow (w.heap.size + 1) 25 5 co ko lo
  apart : ∀ k, cn.ownBlock = some k → co.ownBlock ≠ some k
  size : w.heap.size + 1 ≤ W.heap.size
  same : Same S W0 W
  far : ∀ b, S b → b < W.heap.size ∧ b ≠ w.heap.size ∧ cn.ownBlock ≠ some b ∧ co.ownBlock ≠ some b
section
variable {w : World} {nv ov cn co : Value} {kn ko g cap : Nat} {ln lo : List Value} {S : Nat → Prop} {W0 W W' : World}
theorem AdM.on (h : AdM w nv ov cn co kn ko ln lo S W0 W) (hb : Below W.heap.size W W') : AdM w nv ov cn co kn ko ln lo S W0 W' where
  out := h.out.on hb
  below := h.below.trans (hb.mono h.below.size)
  nown := own_on h.nown hb
  oown := own_on h.oown hb
  apart := h.apart
  size := Nat.le_trans h.size hb.size
  same := fun b hs => (hb.block b (h.far b hs).1).trans (h.same b hs)
  far := fun b hs => ⟨Nat.lt_of_lt_of_le (h.far b hs).1 hb.size, (h.far b hs).2⟩
theorem AdM.grow_n {ln' : List Value} (h : AdM w nv ov cn co kn ko ln lo S W0 W) (hown : W'.ownsRow (w.heap.size + 1) 9 1 (.slice (some ⟨g, 0, none⟩) (kn + 1) cap) (kn + 1) ln')
    (hg : W.grownBy W' cn.ownBlock) (hat : cn.ownBlock = some g ∨ g = W.heap.size) : AdM w nv ov (.slice (some ⟨g, 0, none⟩) (kn + 1) cap) co (kn + 1) ko ln' lo S W0 W' where
  out := h.out.same (hg.block _ (by have := h.size; omega) (own_ne h.nown (by omega)))
  below := h.below.grown hg h.below.size (fun k hk => by have := (h.nown.lt k hk).1; omega)
  nown := hown
  oown := h.oown.kept hg (by
    cases hc : co.ownBlock with
    | none => exact .inl rfl
    | some k => exact .inr (fun e => h.apart k e.symm hc))
  apart := fun k hk e => by
    have hk' : g = k := by simpa [Value.ownBlock] using hk
    subst hk'
    rcases hat with h4 | h4
    · exact h.apart g h4 e
    · have := (h.oown.lt g e).2; omega
  size := Nat.le_trans h.size hg.size
  same := fun b hs => (hg.block b (h.far b hs).1 (fun e => (h.far b hs).2.2.1 e.symm)).trans (h.same b hs)
  far := fun b hs => ⟨Nat.lt_of_lt_of_le (h.far b hs).1 hg.size, (h.far b hs).2.1, fun e => by
    have e' : g = b := by simpa [Value.ownBlock] using e
    subst e'
    rcases hat with h4 | h4
    · exact (h.far g hs).2.2.1 h4
    · have := (h.far g hs).1; omega, (h.far b hs).2.2.2⟩
theorem AdM.grow_o {lo' : List Value} (h : AdM w nv ov cn co kn ko ln lo S W0 W) (hown : W'.ownsRow (w.heap.size + 1) 25 5 (.slice (some ⟨g, 0, none⟩) (ko + 1) cap) (ko + 1) lo')
    (hg : W.grownBy W' co.ownBlock) (hat : co.ownBlock = some g ∨ g = W.heap.size) : AdM w nv ov cn (.slice (some ⟨g, 0, none⟩) (ko + 1) cap) kn (ko + 1) ln lo' S W0 W' where
  out := h.out.same (hg.block _ (by have := h.size; omega) (own_ne h.oown (by omega)))
  below := h.below.grown hg h.below.size (fun k hk => by have := (h.oown.lt k hk).1; omega)
  nown := h.nown.kept hg (by
    cases hc : cn.ownBlock with
    | none => exact .inl rfl
    | some k => exact .inr (fun e => h.apart k hc e.symm))
  oown := hown
  apart := fun k hk e => by
    have hk' : g = k := by simpa [Value.ownBlock] using e
    subst hk'
    rcases hat with h4 | h4
    · exact h.apart g hk h4
    · have := (h.nown.lt g hk).2; omega
  size := Nat.le_trans h.size hg.size
  same := fun b hs => (hg.block b (h.far b hs).1 (fun e => (h.far b hs).2.2.2 e.symm)).trans (h.same b hs)
  far := fun b hs => ⟨Nat.lt_of_lt_of_le (h.far b hs).1 hg.size, (h.far b hs).2.1, (h.far b hs).2.2.1, fun e => by
    have e' : g = b := by simpa [Value.ownBlock] using e
    subst e'
    rcases hat with h4 | h4
    · exact (h.far g hs).2.2.2 h4
    · have := (h.far g hs).1; omega⟩
/-- both fields are stored anew -/
theorem AdM.put (h : AdM w nv ov cn co kn ko ln lo S W0 W) : AdM w cn co cn co kn ko ln lo S W0 ((W.setCell ⟨w.heap.size, 4, none⟩ cn).setCell ⟨w.heap.size, 3, none⟩ co) where
  out := (h.out.set4 cn).set3 co
  below := (h.below.setCell (p := ⟨w.heap.size, 4, none⟩) (Nat.le_refl _) _).setCell (p := ⟨w.heap.size, 3, none⟩) (Nat.le_refl _) _
  nown := own_far (own_far h.nown _ (by show w.heap.size < _; omega)) _ (by show w.heap.size < _; omega)
  oown := own_far (own_far h.oown _ (by show w.heap.size < _; omega)) _ (by show w.heap.size < _; omega)
  apart := h.apart
  size := by simpa [World.setCell] using h.size
  same := fun b hs => by
    have hne := (h.far b hs).2.1
    exact ((set_but _ w.heap.size 3 co).block b (by simpa [World.setCell] using (h.far b hs).1) hne).trans (((set_but W w.heap.size 4 cn).block b (h.far b hs).1 hne).trans (h.same b hs))
  far := fun b hs => ⟨by simpa [World.setCell] using (h.far b hs).1, (h.far b hs).2⟩
theorem AdM.from {S' : Nat → Prop} (h : AdM w nv ov cn co kn ko ln lo S W0 W) (hf : ∀ b, S' b → b < W.heap.size ∧ b ≠ w.heap.size ∧ cn.ownBlock ≠ some b ∧ co.ownBlock ≠ some b) : AdM w nv ov cn co kn ko ln lo S' W W := ⟨h.out, h.below, h.nown, h.oown, h.apart, h.size, fun _ _ => rfl, hf⟩
theorem AdM.tb (h : AdM w nv ov cn co kn ko ln lo S W0 W) (T : TypeId) (cs : Array Value) : TB (W.alloc (.cells cs T)) cn co W.heap.size T cs :=
  ⟨BK.new W T cs, fun e => by have := (h.nown.lt _ e).2; omega, fun e => by have := (h.oown.lt _ e).2; omega⟩
end
/-- what the drawn region reads -/
structure OA (g3 g5 : Nat) (nv ov : Value) (v0 v1 v2 v3 v4 : Value) (w : World) : Prop where
  box : BX w g3 (.int .i64 5) (.bool false) (.string ⟨#[]⟩) ov nv
  x : BK w g5 25 #[v0, v1, v2, v3, v4]
theorem OA.same {g3 g5 : Nat} {nv ov : Value} {v0 v1 v2 v3 v4 : Value} {w w' : World} (h : OA g3 g5 nv ov v0 v1 v2 v3 v4 w) (h3 : w'.heap[g3]? = w.heap[g3]?) (h5 : w'.heap[g5]? = w.heap[g5]?) : OA g3 g5 nv ov v0 v1 v2 v3 v4 w' := ⟨h.box.same h3, h5.trans h.x⟩
theorem OA.on {g3 g5 : Nat} {nv ov : Value} {v0 v1 v2 v3 v4 : Value} {w w' : World} (h : OA g3 g5 nv ov v0 v1 v2 v3 v4 w) (hb : Below w.heap.size w w') : OA g3 g5 nv ov v0 v1 v2 v3 v4 w' := h.same (hb.block _ h.box.lt) (hb.block _ h.x.lt)
theorem VR.congr {w : World} {S : Nat → Prop} {xs : List Value} {p : Nat} {c c' : Nat → VT} (h : VR w S xs p c) (hc : ∀ j, j < p → c j = c' j) : VR w S xs p c' := ⟨h.1, fun j hj => by rw [← hc j hj]; exact h.2 j hj⟩
/-- an object that grows: its names, its values; the rows lie behind w's end and below B -/
def AdV (w : World) (nms : List ByteArray) (ts : List VT) (B : Nat) (W : World) : Prop := ∃ nv ov xs, AdM w nv ov nv ov nms.length nms.length (nms.map Value.string) xs (fun _ => False) W W ∧
  VR W (fun b => b < W.heap.size ∧ b ≠ w.heap.size ∧ nv.ownBlock ≠ some b ∧ ov.ownBlock ≠ some b) xs nms.length (fun j => ts.getD j .leaf) ∧ ts.length = nms.length ∧ B ≤ W.heap.size ∧ w.heap.size < B ∧ (∀ b, nv.ownBlock = some b → b < B) ∧ (∀ b, ov.ownBlock = some b → b < B)
theorem AdV.on {w : World} {nms : List ByteArray} {ts : List VT} {B : Nat} {W W' : World} (h : AdV w nms ts B W) (hb : Below W.heap.size W W') : AdV w nms ts B W' := by
  obtain ⟨nv, ov, xs, hM, hv, hl, h1, h2, h3, h4⟩ := h
  exact ⟨nv, ov, xs, (hM.on hb).from (fun _ h => h.elim), hv.same (below_same hb (fun b h => h.1)) (fun b h => ⟨Nat.lt_of_lt_of_le h.1 hb.size, h.2⟩), hl, Nat.le_trans h1 hb.size, h2, h3, h4⟩
theorem AdV.new (w : World) : AdV w [] [] (w.heap.size + 1) (w.alloc (.cells #[.int .i64 5, .bool false, .string ⟨#[]⟩, .slice none 0 0, .slice none 0 0] 25)) :=
  ⟨.slice none 0 0, .slice none 0 0, [], ⟨BK.new w _ _, made_end' w _, World.ownsRow_nil _ _ _ _, World.ownsRow_nil _ _ _ _, (fun _ h => by cases h), by simp, (fun _ h => h.elim), (fun _ h => h.elim)⟩, VR.nil _ _ _, rfl, by simp, Nat.lt_succ_self _, (fun _ h => by cases h), (fun _ h => by cases h)⟩
/-- the box, read as the object it holds -/
theorem AdV.obj {w : World} {nms : List ByteArray} {ts : List VT} {B : Nat} {W : World} (h : AdV w nms ts B W) : ∃ OA oc NA nc, BK W w.heap.size 25 #[.int .i64 5, .bool false, .string ⟨#[]⟩, .slice OA ts.length oc, .slice NA nms.length nc] ∧ VLV (zNew 0) (obT nms ts) W (.agg #[.int .i64 5, .bool false, .string ⟨#[]⟩, .slice OA ts.length oc, .slice NA nms.length nc]) := by
  obtain ⟨nv, ov, xs, hM, hv, hl, h1, h2, h3, h4⟩ := h
  obtain ⟨NA, nc, hnv, hT⟩ := TS_of_own (S' := fun b => b < W.heap.size) (l := nms) hM.nown (fun b hb => (hM.nown.lt b hb).2)
  obtain ⟨OA, oc, hov, hV⟩ := VS_of_own (S' := fun b => b < W.heap.size) hM.oown hv (fun b hb => hb.1) (fun b hb => (hM.oown.lt b hb).2)
  subst hnv hov
  refine ⟨OA, oc, NA, nc, by rw [hl]; exact hM.out.bk, ?_⟩
  show VAL _ _ (.mk 5 false .empty ts.length _ nms) (.agg #[.int .i64 5, .bool false, .string ⟨#[]⟩, .slice OA ts.length oc, .slice NA nms.length nc])
  rw [hl]
  exact VAL.mono (fun b hb => ⟨Nat.zero_le _, hb⟩) (VAL.shut (k := 5) (i := false) (t := ⟨#[]⟩) (cap := oc) (cap' := nc) (by decide) hT hV)
set_option maxRecDepth 100000 in
set_option maxHeartbeats 4000000 in
theorem add_any (w W : World) (nms : List ByteArray) (ts : List VT) (B : Nat) (nm : ByteArray) (t : VT) (v : Value) (h : AdV w nms ts B W) (hx : VAL W (fun b => (b < w.heap.size ∨ B ≤ b) ∧ b < W.heap.size) t v) (hl : nms.length ≤ 100) :
    Calls Tryz.prog 124 #[.string nm, v, .pointer (some ⟨w.heap.size, 0, none⟩)] W fun e W' => e = .returned (.tuple #[]) ∧ AdV w (nms ++ [nm]) (ts ++ [t]) W'.heap.size W' := by
  obtain ⟨nv, ov, xs, hM, hvr, hlen, hB1, hB2, hB3, hB4⟩ := h
  have HVR := Lib.hid hvr
  have HLE := Lib.hid hlen
  have hx2 : VAL W (fun b => b < W.heap.size ∧ b ≠ w.heap.size ∧ nv.ownBlock ≠ some b ∧ ov.ownBlock ≠ some b) t v := VAL.mono (fun b hb => ⟨hb.2, by have := hb.1; omega, fun e => by have := hB3 b e; have := (hM.nown.lt b e).1; have := hb.1; omega, fun e => by have := hB4 b e; have := (hM.oown.lt b e).1; have := hb.1; omega⟩) hx
  have HM := Lib.hid (hM.from (S' := fun b => b < W.heap.size ∧ b ≠ w.heap.size ∧ nv.ownBlock ≠ some b ∧ ov.ownBlock ≠ some b) (fun b h => h))
  have HX2 := Lib.hid hx2
  have HONE0 := Lib.hid (fun v0 v1 v2 v3 v4 (e : v = .agg #[v0, v1, v2, v3, v4]) => VAL.one (e ▸ hx2))
  obtain ⟨kz, iz, xz, Az, nz, cz, Bz, mz, dz, rfl⟩ := VAL.shape hx2
  have HONE := Lib.hid (HONE0.out _ _ _ _ _ rfl)
  obtain ⟨ns, hns⟩ : ∃ l, nms.map Value.string = l := ⟨_, rfl⟩
  obtain ⟨p, hp⟩ : ∃ n, nms.length = n := ⟨_, rfl⟩
  have HNS := Lib.hid hns
  have HPP := Lib.hid hp
  rw [hns, hp] at HM
  rw [hp] at hl
  clear hvr hlen hx hx2 hM hB1 hB2 hB3 hB4 HONE0 hns hp
  obtain ⟨i0, hi0, hz0, hz1, hz2⟩ := info_parts Tryz.infoV
  have HI0 := Lib.hid hi0
  have HZ0 := Lib.hid hz0
  have HZ1 := Lib.hid hz1
  have HZ2 := Lib.hid hz2
  obtain ⟨j0, hj0, hy0, hy1, hy2⟩ := info_parts Tryz.infoS
  have HJ0 := Lib.hid hj0
  have HJZ0 := Lib.hid hy0
  have HJZ1 := Lib.hid hy1
  have HJZ2 := Lib.hid hy2
  clear hi0 hz0 hz1 hz2 hj0 hy0 hy1 hy2
  go_enter Tryz.func124, Tryz.ntmps124
  go_wp2_with fail
  generalize Value.int .i64 kz = v0 at *
  generalize Value.bool iz = v1 at *
  generalize Value.string xz = v2 at *
  generalize Value.slice Az nz cz = v3 at *
  generalize Value.slice Bz mz dz = v4 at *
  have hba := (Below.refl W.heap.size W).alloc (Nat.le_refl _) (.cells #[v0, v1, v2, v3, v4] 25)
  have HX := Lib.hid (AdM.tb HM.out 25 #[v0, v1, v2, v3, v4])
  replace HM := Lib.hid (HM.out.on hba)
  clear hba
  generalize (W.alloc (.cells #[v0, v1, v2, v3, v4] 25)) = w1 at *
  generalize hg5 : W.heap.size = g5 at HX ⊢
  clear hg5
  refine start_ (n := 14) (S := OA w.heap.size g5 nv ov v0 v1 v2 v3 v4) (ds := [11, 13]) #[false, false, false, false, false, false, false, false, false, false, false, false, false, false] (by kernel_rfl) rfl rfl ⟨HM.out.out, HX.out.bk⟩ (fun hHeld => ?_)
  have hbd : Below w1.heap.size w1 w1.drew := (Below.refl _ _).drew
  replace HM := Lib.hid (HM.out.on hbd)
  replace HX := Lib.hid (HX.out.on hbd)
  clear hbd
  generalize w1.drew = w2 at *
  refine pure_ (i := 0) (N := some 5) (v := ?_) (a' := ?_) #[true, false, false, false, false, false, false, false, false, false, false, false, false, false] rfl rfl (by kernel_rfl) (fun _ _ _ h => h) (Or.inl ⟨by rfl, ?_⟩) ?_ ?_
  rotate_left
  · intro w'; go_simp; with_reducible rfl
  rotate_left
  · simp only [Act.put, List.setIfInBounds_toArray, List.set_cons_zero, List.set_cons_succ, i64_w, i32_w]; rfl
  refine pure_ (i := 2) (N := some 7) (v := ?_) (a' := ?_) #[true, false, true, false, false, false, false, false, false, false, false, false, false, false] rfl rfl (by kernel_rfl) (fun _ _ _ h => h) (Or.inl ⟨by rfl, ?_⟩) ?_ ?_
  rotate_left
  · intro w'; go_simp; with_reducible rfl
  rotate_left
  · simp only [Act.put, List.setIfInBounds_toArray, List.set_cons_zero, List.set_cons_succ, i64_w, i32_w]; rfl
  refine pure_ (i := 5) (N := some 10) (v := ?_) (a' := ?_) #[true, false, true, false, false, true, false, false, false, false, false, false, false, false] rfl rfl (by kernel_rfl) (fun _ _ _ h => h) (Or.inl ⟨by rfl, ?_⟩) ?_ ?_
  rotate_left
  · intro w'; go_simp; with_reducible rfl
  rotate_left
  · simp only [Act.put, List.setIfInBounds_toArray, List.set_cons_zero, List.set_cons_succ, i64_w, i32_w]; rfl
  refine take_ (i := 1) (N := some 6) (v := ?_) (a' := ?_) #[true, true, true, false, false, true, false, false, false, false, false, false, false, false] rfl rfl (by kernel_rfl) (fun _ _ _ h => h) (Or.inl ⟨by rfl, ?_⟩) hHeld ?_ ?_
  rotate_left
  · intro w' hh; have s3 := hh.box.c3; have s4 := hh.box.c4; have t0 := hh.x.c 0 rfl; have t1 := hh.x.c 1 rfl; have t2 := hh.x.c 2 rfl; have t3 := hh.x.c 3 rfl; have t4 := hh.x.c 4 rfl; clear hh; go_simp; with_reducible rfl
  rotate_left
  · simp only [Act.put, List.setIfInBounds_toArray, List.set_cons_zero, List.set_cons_succ, i64_w, i32_w]; rfl
  refine take_ (i := 6) (N := some 11) (v := ?_) (a' := ?_) #[true, true, true, false, false, true, true, false, false, false, false, false, false, false] rfl rfl (by kernel_rfl) (fun _ _ _ h => h) (Or.inl ⟨by rfl, ?_⟩) hHeld ?_ ?_
  rotate_left
  · intro w' hh; have s3 := hh.box.c3; have s4 := hh.box.c4; have t0 := hh.x.c 0 rfl; have t1 := hh.x.c 1 rfl; have t2 := hh.x.c 2 rfl; have t3 := hh.x.c 3 rfl; have t4 := hh.x.c 4 rfl; clear hh; go_simp; with_reducible rfl
  rotate_left
  · simp only [Act.put, List.setIfInBounds_toArray, List.set_cons_zero, List.set_cons_succ, i64_w, i32_w]; rfl
  refine take_ (i := 7) (N := some 12) (v := ?_) (a' := ?_) #[true, true, true, false, false, true, true, true, false, false, false, false, false, false] rfl rfl (by kernel_rfl) (fun _ _ _ h => h) (Or.inl ⟨by rfl, ?_⟩) hHeld ?_ ?_
  rotate_left
  · intro w' hh; have s3 := hh.box.c3; have s4 := hh.box.c4; have t0 := hh.x.c 0 rfl; have t1 := hh.x.c 1 rfl; have t2 := hh.x.c 2 rfl; have t3 := hh.x.c 3 rfl; have t4 := hh.x.c 4 rfl; clear hh; go_simp; with_reducible rfl
  rotate_left
  · simp only [Act.put, List.setIfInBounds_toArray, List.set_cons_zero, List.set_cons_succ, i64_w, i32_w]; rfl
  refine join_ (σ := Value × Value × Value × Value) 3 #[true, true, true, true, true, true, true, true, true, true, true, false, false, false] (fun s => [(8, s.1), (9, s.2.1), (13, s.2.2.1), (14, s.2.2.2), (15, .pointer (some ⟨w.heap.size, 4, none⟩))]) (fun s w' => AdM w nv ov s.2.1 s.2.2.2 (p + 1) (p + 1) (ns ++ [.string nm]) (xs ++ [v0, v1, v2, v3, v4]) (fun b => b < W.heap.size ∧ b ≠ w.heap.size ∧ nv.ownBlock ≠ some b ∧ ov.ownBlock ≠ some b) W w' ∧ OA w.heap.size g5 nv ov v0 v1 v2 v3 v4 w') ?_ ?_
  rotate_left
  · intro hJ
    have HJ := Lib.hid hJ
    clear hJ
    refine two_ (i := 3) (j := 8) (Ni := some 8) (Nj := some 13) #[true, true, true, true, false, true, true, true, false, false, false, false, false, false] #[true, true, true, false, false, true, true, true, true, false, false, false, false, false] rfl rfl rfl rfl (by kernel_rfl) (by decide) (by decide) (fun K hK => ?_) (fun K hK => ?_)
    · skip
      refine value_ (w1 := (w2.alloc (.cells #[.string nm] 9))) (v := .slice (some ⟨w2.heap.size, 0, none⟩) 1 1) rfl rfl ?_ ?_
      · go_simp
        all_goals first | rfl | (constructor <;> rfl)
      have hba := (Below.refl w2.heap.size w2).alloc (Nat.le_refl _) (.cells #[.string nm] 9)
      refine hK.out _ _ (hHeld.on hba) (fun hHeld2 => ?_)
      clear hK K hHeld
      have hHeld := hHeld2
      clear hHeld2
      have Hqa := Lib.hid (AdM.tb HM.out 9 #[.string nm])
      replace HM := Lib.hid (HM.out.on hba)
      replace HX := Lib.hid (HX.out.on hba)
      clear hba
      refine norm_ (a' := ?_) ?_ ?_
      rotate_left
      · show Act.put _ (some 8) _ = _; simp only [Act.put, List.setIfInBounds_toArray, List.set_cons_zero, List.set_cons_succ, i64_w, i32_w]; rfl
      generalize (w2.alloc (.cells #[.string nm] 9)) = wa1 at *
      generalize w2.heap.size = qa at *
      refine two_ (i := 4) (j := 8) (Ni := some 9) (Nj := some 13) #[true, true, true, true, true, true, true, true, false, false, false, false, false, false] #[true, true, true, true, false, true, true, true, true, false, false, false, false, false] rfl rfl rfl rfl (by kernel_rfl) (by decide) (by decide) (fun K hK => ?_) (fun K hK => ?_)
      · skip
        refine step_append_lies _ rfl (.tmp 6) (.tmp 8) 23 rfl (w.heap.size + 1) 9 j0 _ 1 16 Tryz.underlying23 HJ0.out HJZ0.out HJZ1.out HJZ2.out rfl (by omega) nv p ns (by rfl) HM.out.nown ⟨qa, 0, none⟩ 1 1 [.string nm] (by rfl) (by rfl) (World.news_of_block Hqa.out.bk) (by intro u hu; simp only [List.mem_singleton] at hu; subst hu; rfl) (by omega)
          (by unfold maxLen; omega) (by omega) HM.out.size _ rfl ?_
        intro gn cn wp2 hown hgrow hat hlt
        refine hK.out _ _ (hHeld.same (hgrow.block _ (by have := HM.out.size; omega) (own_ne HM.out.nown (by omega))) (hgrow.block _ HX.out.bk.lt (fun e => HX.out.n e.symm))) (fun hHeld2 => ?_)
        clear hK K hHeld
        have hHeld := hHeld2
        clear hHeld2
        replace HM := Lib.hid (HM.out.grow_n hown hgrow hat)
        replace HX := Lib.hid (HX.out.grow_n (n := p + 1) (cap := cn) hgrow hat)
        replace Hqa := Lib.hid (Hqa.out.grow_n (n := p + 1) (cap := cn) hgrow hat)
        clear hown hgrow hat hlt
        refine norm_ (a' := ?_) ?_ ?_
        rotate_left
        · show Act.put _ (some 9) _ = _; simp only [Act.put, List.setIfInBounds_toArray, List.set_cons_zero, List.set_cons_succ, i64_w, i32_w]; rfl
        refine pure_ (i := 10) (N := some 15) (v := ?_) (a' := ?_) #[true, true, true, true, true, true, true, true, false, false, true, false, false, false] rfl rfl (by kernel_rfl) (fun _ _ _ h => h) (Or.inl ⟨by rfl, ?_⟩) ?_ ?_
        rotate_left
        · intro w'; go_simp; with_reducible rfl
        rotate_left
        · simp only [Act.put, List.setIfInBounds_toArray, List.set_cons_zero, List.set_cons_succ, i64_w, i32_w]; rfl
        refine one_ (i := 8) (N := some 13) #[true, true, true, true, true, true, true, true, true, false, true, false, false, false] rfl rfl (by kernel_rfl) (by decide) (fun K hK => ?_)
        refine value_ (w1 := (wp2.alloc (.cells #[v0, v1, v2, v3, v4] 25))) (v := .slice (some ⟨wp2.heap.size, 0, none⟩) 1 1) rfl rfl ?_ ?_
        · go_simp
          all_goals first | rfl | (constructor <;> rfl)
        have hba := (Below.refl wp2.heap.size wp2).alloc (Nat.le_refl _) (.cells #[v0, v1, v2, v3, v4] 25)
        refine hK.out _ _ (hHeld.on hba) (fun hHeld2 => ?_)
        clear hK K hHeld
        have hHeld := hHeld2
        clear hHeld2
        have Hqb := Lib.hid (AdM.tb HM.out 25 #[v0, v1, v2, v3, v4])
        replace HM := Lib.hid (HM.out.on hba)
        replace HX := Lib.hid (HX.out.on hba)
        replace Hqa := Lib.hid (Hqa.out.on hba)
        clear hba
        refine norm_ (a' := ?_) ?_ ?_
        rotate_left
        · show Act.put _ (some 13) _ = _; simp only [Act.put, List.setIfInBounds_toArray, List.set_cons_zero, List.set_cons_succ, i64_w, i32_w]; rfl
        generalize (wp2.alloc (.cells #[v0, v1, v2, v3, v4] 25)) = wa3 at *
        generalize wp2.heap.size = qb at *
        refine one_ (i := 9) (N := some 14) #[true, true, true, true, true, true, true, true, true, true, true, false, false, false] rfl rfl (by kernel_rfl) (by decide) (fun K hK => ?_)
        refine step_append_lies _ rfl (.tmp 11) (.tmp 13) 22 rfl (w.heap.size + 1) 25 i0 _ 5 80 Tryz.underlying22 HI0.out HZ0.out HZ1.out HZ2.out rfl (by omega) ov p xs (by rfl) HM.out.oown ⟨qb, 0, none⟩ 1 1 [v0, v1, v2, v3, v4] (by rfl) (by rfl) (World.news_of_block Hqb.out.bk) HONE.out (by omega)
          (by unfold maxLen; omega) (by omega) HM.out.size _ rfl ?_
        intro go co wp4 hown hgrow hat hlt
        refine hK.out _ _ (hHeld.same (hgrow.block _ (by have := HM.out.size; omega) (own_ne HM.out.oown (by omega))) (hgrow.block _ HX.out.bk.lt (fun e => HX.out.o e.symm))) (fun hHeld2 => ?_)
        clear hK K hHeld
        have hHeld := hHeld2
        clear hHeld2
        replace HM := Lib.hid (HM.out.grow_o hown hgrow hat)
        replace HX := Lib.hid (HX.out.grow_o (n := p + 1) (cap := co) hgrow hat)
        replace Hqa := Lib.hid (Hqa.out.grow_o (n := p + 1) (cap := co) hgrow hat)
        replace Hqb := Lib.hid (Hqb.out.grow_o (n := p + 1) (cap := co) hgrow hat)
        clear hown hgrow hat hlt
        refine norm_ (a' := ?_) ?_ ?_
        rotate_left
        · show Act.put _ (some 14) _ = _; simp only [Act.put, List.setIfInBounds_toArray, List.set_cons_zero, List.set_cons_succ, i64_w, i32_w]; rfl
        exact HJ.out (.slice (some ⟨qa, 0, none⟩) 1 1, .slice (some ⟨gn, 0, none⟩) (p + 1) cn, .slice (some ⟨qb, 0, none⟩) 1 1, .slice (some ⟨go, 0, none⟩) (p + 1) co) wp4 ⟨HM.out, hHeld⟩
      · skip
        refine value_ (w1 := (wa1.alloc (.cells #[v0, v1, v2, v3, v4] 25))) (v := .slice (some ⟨wa1.heap.size, 0, none⟩) 1 1) rfl rfl ?_ ?_
        · go_simp
          all_goals first | rfl | (constructor <;> rfl)
        have hba := (Below.refl wa1.heap.size wa1).alloc (Nat.le_refl _) (.cells #[v0, v1, v2, v3, v4] 25)
        refine hK.out _ _ (hHeld.on hba) (fun hHeld2 => ?_)
        clear hK K hHeld
        have hHeld := hHeld2
        clear hHeld2
        have Hqb := Lib.hid (AdM.tb HM.out 25 #[v0, v1, v2, v3, v4])
        replace HM := Lib.hid (HM.out.on hba)
        replace HX := Lib.hid (HX.out.on hba)
        replace Hqa := Lib.hid (Hqa.out.on hba)
        clear hba
        refine norm_ (a' := ?_) ?_ ?_
        rotate_left
        · show Act.put _ (some 13) _ = _; simp only [Act.put, List.setIfInBounds_toArray, List.set_cons_zero, List.set_cons_succ, i64_w, i32_w]; rfl
        generalize (wa1.alloc (.cells #[v0, v1, v2, v3, v4] 25)) = wa5 at *
        generalize wa1.heap.size = qb at *
        refine one_ (i := 4) (N := some 9) #[true, true, true, true, true, true, true, true, true, false, false, false, false, false] rfl rfl (by kernel_rfl) (by decide) (fun K hK => ?_)
        refine step_append_lies _ rfl (.tmp 6) (.tmp 8) 23 rfl (w.heap.size + 1) 9 j0 _ 1 16 Tryz.underlying23 HJ0.out HJZ0.out HJZ1.out HJZ2.out rfl (by omega) nv p ns (by rfl) HM.out.nown ⟨qa, 0, none⟩ 1 1 [.string nm] (by rfl) (by rfl) (World.news_of_block Hqa.out.bk) (by intro u hu; simp only [List.mem_singleton] at hu; subst hu; rfl) (by omega)
          (by unfold maxLen; omega) (by omega) HM.out.size _ rfl ?_
        intro gn cn wp6 hown hgrow hat hlt
        refine hK.out _ _ (hHeld.same (hgrow.block _ (by have := HM.out.size; omega) (own_ne HM.out.nown (by omega))) (hgrow.block _ HX.out.bk.lt (fun e => HX.out.n e.symm))) (fun hHeld2 => ?_)
        clear hK K hHeld
        have hHeld := hHeld2
        clear hHeld2
        replace HM := Lib.hid (HM.out.grow_n hown hgrow hat)
        replace HX := Lib.hid (HX.out.grow_n (n := p + 1) (cap := cn) hgrow hat)
        replace Hqa := Lib.hid (Hqa.out.grow_n (n := p + 1) (cap := cn) hgrow hat)
        replace Hqb := Lib.hid (Hqb.out.grow_n (n := p + 1) (cap := cn) hgrow hat)
        clear hown hgrow hat hlt
        refine norm_ (a' := ?_) ?_ ?_
        rotate_left
        · show Act.put _ (some 9) _ = _; simp only [Act.put, List.setIfInBounds_toArray, List.set_cons_zero, List.set_cons_succ, i64_w, i32_w]; rfl
        refine pure_ (i := 10) (N := some 15) (v := ?_) (a' := ?_) #[true, true, true, true, true, true, true, true, true, false, true, false, false, false] rfl rfl (by kernel_rfl) (fun _ _ _ h => h) (Or.inl ⟨by rfl, ?_⟩) ?_ ?_
        rotate_left
        · intro w'; go_simp; with_reducible rfl
        rotate_left
        · simp only [Act.put, List.setIfInBounds_toArray, List.set_cons_zero, List.set_cons_succ, i64_w, i32_w]; rfl
        refine one_ (i := 9) (N := some 14) #[true, true, true, true, true, true, true, true, true, true, true, false, false, false] rfl rfl (by kernel_rfl) (by decide) (fun K hK => ?_)
        refine step_append_lies _ rfl (.tmp 11) (.tmp 13) 22 rfl (w.heap.size + 1) 25 i0 _ 5 80 Tryz.underlying22 HI0.out HZ0.out HZ1.out HZ2.out rfl (by omega) ov p xs (by rfl) HM.out.oown ⟨qb, 0, none⟩ 1 1 [v0, v1, v2, v3, v4] (by rfl) (by rfl) (World.news_of_block Hqb.out.bk) HONE.out (by omega)
          (by unfold maxLen; omega) (by omega) HM.out.size _ rfl ?_
        intro go co wp7 hown hgrow hat hlt
        refine hK.out _ _ (hHeld.same (hgrow.block _ (by have := HM.out.size; omega) (own_ne HM.out.oown (by omega))) (hgrow.block _ HX.out.bk.lt (fun e => HX.out.o e.symm))) (fun hHeld2 => ?_)
        clear hK K hHeld
        have hHeld := hHeld2
        clear hHeld2
        replace HM := Lib.hid (HM.out.grow_o hown hgrow hat)
        replace HX := Lib.hid (HX.out.grow_o (n := p + 1) (cap := co) hgrow hat)
        replace Hqa := Lib.hid (Hqa.out.grow_o (n := p + 1) (cap := co) hgrow hat)
        replace Hqb := Lib.hid (Hqb.out.grow_o (n := p + 1) (cap := co) hgrow hat)
        clear hown hgrow hat hlt
        refine norm_ (a' := ?_) ?_ ?_
        rotate_left
        · show Act.put _ (some 14) _ = _; simp only [Act.put, List.setIfInBounds_toArray, List.set_cons_zero, List.set_cons_succ, i64_w, i32_w]; rfl
        exact HJ.out (.slice (some ⟨qa, 0, none⟩) 1 1, .slice (some ⟨gn, 0, none⟩) (p + 1) cn, .slice (some ⟨qb, 0, none⟩) 1 1, .slice (some ⟨go, 0, none⟩) (p + 1) co) wp7 ⟨HM.out, hHeld⟩
    · skip
      refine value_ (w1 := (w2.alloc (.cells #[v0, v1, v2, v3, v4] 25))) (v := .slice (some ⟨w2.heap.size, 0, none⟩) 1 1) rfl rfl ?_ ?_
      · go_simp
        all_goals first | rfl | (constructor <;> rfl)
      have hba := (Below.refl w2.heap.size w2).alloc (Nat.le_refl _) (.cells #[v0, v1, v2, v3, v4] 25)
      refine hK.out _ _ (hHeld.on hba) (fun hHeld2 => ?_)
      clear hK K hHeld
      have hHeld := hHeld2
      clear hHeld2
      have Hqb := Lib.hid (AdM.tb HM.out 25 #[v0, v1, v2, v3, v4])
      replace HM := Lib.hid (HM.out.on hba)
      replace HX := Lib.hid (HX.out.on hba)
      clear hba
      refine norm_ (a' := ?_) ?_ ?_
      rotate_left
      · show Act.put _ (some 13) _ = _; simp only [Act.put, List.setIfInBounds_toArray, List.set_cons_zero, List.set_cons_succ, i64_w, i32_w]; rfl
      generalize (w2.alloc (.cells #[v0, v1, v2, v3, v4] 25)) = wa8 at *
      generalize w2.heap.size = qb at *
      refine one_ (i := 3) (N := some 8) #[true, true, true, true, false, true, true, true, true, false, false, false, false, false] rfl rfl (by kernel_rfl) (by decide) (fun K hK => ?_)
      refine value_ (w1 := (wa8.alloc (.cells #[.string nm] 9))) (v := .slice (some ⟨wa8.heap.size, 0, none⟩) 1 1) rfl rfl ?_ ?_
      · go_simp
        all_goals first | rfl | (constructor <;> rfl)
      have hba := (Below.refl wa8.heap.size wa8).alloc (Nat.le_refl _) (.cells #[.string nm] 9)
      refine hK.out _ _ (hHeld.on hba) (fun hHeld2 => ?_)
      clear hK K hHeld
      have hHeld := hHeld2
      clear hHeld2
      have Hqa := Lib.hid (AdM.tb HM.out 9 #[.string nm])
      replace HM := Lib.hid (HM.out.on hba)
      replace HX := Lib.hid (HX.out.on hba)
      replace Hqb := Lib.hid (Hqb.out.on hba)
      clear hba
      refine norm_ (a' := ?_) ?_ ?_
      rotate_left
      · show Act.put _ (some 8) _ = _; simp only [Act.put, List.setIfInBounds_toArray, List.set_cons_zero, List.set_cons_succ, i64_w, i32_w]; rfl
      generalize (wa8.alloc (.cells #[.string nm] 9)) = wa9 at *
      generalize wa8.heap.size = qa at *
      refine one_ (i := 4) (N := some 9) #[true, true, true, true, true, true, true, true, true, false, false, false, false, false] rfl rfl (by kernel_rfl) (by decide) (fun K hK => ?_)
      refine step_append_lies _ rfl (.tmp 6) (.tmp 8) 23 rfl (w.heap.size + 1) 9 j0 _ 1 16 Tryz.underlying23 HJ0.out HJZ0.out HJZ1.out HJZ2.out rfl (by omega) nv p ns (by rfl) HM.out.nown ⟨qa, 0, none⟩ 1 1 [.string nm] (by rfl) (by rfl) (World.news_of_block Hqa.out.bk) (by intro u hu; simp only [List.mem_singleton] at hu; subst hu; rfl) (by omega)
        (by unfold maxLen; omega) (by omega) HM.out.size _ rfl ?_
      intro gn cn wp10 hown hgrow hat hlt
      refine hK.out _ _ (hHeld.same (hgrow.block _ (by have := HM.out.size; omega) (own_ne HM.out.nown (by omega))) (hgrow.block _ HX.out.bk.lt (fun e => HX.out.n e.symm))) (fun hHeld2 => ?_)
      clear hK K hHeld
      have hHeld := hHeld2
      clear hHeld2
      replace HM := Lib.hid (HM.out.grow_n hown hgrow hat)
      replace HX := Lib.hid (HX.out.grow_n (n := p + 1) (cap := cn) hgrow hat)
      replace Hqb := Lib.hid (Hqb.out.grow_n (n := p + 1) (cap := cn) hgrow hat)
      replace Hqa := Lib.hid (Hqa.out.grow_n (n := p + 1) (cap := cn) hgrow hat)
      clear hown hgrow hat hlt
      refine norm_ (a' := ?_) ?_ ?_
      rotate_left
      · show Act.put _ (some 9) _ = _; simp only [Act.put, List.setIfInBounds_toArray, List.set_cons_zero, List.set_cons_succ, i64_w, i32_w]; rfl
      refine pure_ (i := 10) (N := some 15) (v := ?_) (a' := ?_) #[true, true, true, true, true, true, true, true, true, false, true, false, false, false] rfl rfl (by kernel_rfl) (fun _ _ _ h => h) (Or.inl ⟨by rfl, ?_⟩) ?_ ?_
      rotate_left
      · intro w'; go_simp; with_reducible rfl
      rotate_left
      · simp only [Act.put, List.setIfInBounds_toArray, List.set_cons_zero, List.set_cons_succ, i64_w, i32_w]; rfl
      refine one_ (i := 9) (N := some 14) #[true, true, true, true, true, true, true, true, true, true, true, false, false, false] rfl rfl (by kernel_rfl) (by decide) (fun K hK => ?_)
      refine step_append_lies _ rfl (.tmp 11) (.tmp 13) 22 rfl (w.heap.size + 1) 25 i0 _ 5 80 Tryz.underlying22 HI0.out HZ0.out HZ1.out HZ2.out rfl (by omega) ov p xs (by rfl) HM.out.oown ⟨qb, 0, none⟩ 1 1 [v0, v1, v2, v3, v4] (by rfl) (by rfl) (World.news_of_block Hqb.out.bk) HONE.out (by omega)
        (by unfold maxLen; omega) (by omega) HM.out.size _ rfl ?_
      intro go co wp11 hown hgrow hat hlt
      refine hK.out _ _ (hHeld.same (hgrow.block _ (by have := HM.out.size; omega) (own_ne HM.out.oown (by omega))) (hgrow.block _ HX.out.bk.lt (fun e => HX.out.o e.symm))) (fun hHeld2 => ?_)
      clear hK K hHeld
      have hHeld := hHeld2
      clear hHeld2
      replace HM := Lib.hid (HM.out.grow_o hown hgrow hat)
      replace HX := Lib.hid (HX.out.grow_o (n := p + 1) (cap := co) hgrow hat)
      replace Hqb := Lib.hid (Hqb.out.grow_o (n := p + 1) (cap := co) hgrow hat)
      replace Hqa := Lib.hid (Hqa.out.grow_o (n := p + 1) (cap := co) hgrow hat)
      clear hown hgrow hat hlt
      refine norm_ (a' := ?_) ?_ ?_
      rotate_left
      · show Act.put _ (some 14) _ = _; simp only [Act.put, List.setIfInBounds_toArray, List.set_cons_zero, List.set_cons_succ, i64_w, i32_w]; rfl
      exact HJ.out (.slice (some ⟨qa, 0, none⟩) 1 1, .slice (some ⟨gn, 0, none⟩) (p + 1) cn, .slice (some ⟨qb, 0, none⟩) 1 1, .slice (some ⟨go, 0, none⟩) (p + 1) co) wp11 ⟨HM.out, hHeld⟩
  rintro ⟨s17, s18, s23, s24⟩ w3 ⟨hM3, hHeld3⟩
  clear HM HX hHeld
  have HM3 := Lib.hid hM3
  clear hM3
  dsimp only at HM3
  refine norm_ (a' := ?_) ?_ ?_
  rotate_left
  · simp only [putAll, Act.put, List.setIfInBounds_toArray, List.set_cons_zero, List.set_cons_succ]; rfl
  obtain ⟨A18, c18, rfl⟩ := own_slice HM3.out.nown
  obtain ⟨A24, c24, rfl⟩ := own_slice HM3.out.oown
  refine last_ (i := 11) (N := none) #[true, true, true, true, true, true, true, true, true, true, true, true, false, false] rfl rfl (by kernel_rfl) (by decide) (fun K hK => ?_)
  have f4 := HM3.out.out.fr 4
  have s4 := HM3.out.out.c4
  refine skip_ (w1 := w3.setCell ⟨w.heap.size, 4, none⟩ (.slice A18 (p + 1) c18)) rfl rfl ?_ (hK.out _ _ ?_)
  · go_simp
    all_goals first | rfl | (constructor <;> rfl)
  clear hK K f4 s4
  refine pure_ (i := 12) (N := some 16) (v := ?_) (a' := ?_) #[true, true, true, true, true, true, true, true, true, true, true, true, true, false] rfl rfl (by kernel_rfl) (fun _ _ _ h => h) (Or.inl ⟨by rfl, ?_⟩) ?_ ?_
  rotate_left
  · intro w'; go_simp; with_reducible rfl
  rotate_left
  · simp only [Act.put, List.setIfInBounds_toArray, List.set_cons_zero, List.set_cons_succ, i64_w, i32_w]; rfl
  refine last_ (i := 13) (N := none) #[true, true, true, true, true, true, true, true, true, true, true, true, true, true] rfl rfl (by kernel_rfl) (by decide) (fun K hK => ?_)
  have hx3 := HM3.out.out.set4 (.slice A18 (p + 1) c18)
  have f3 := hx3.fr 3
  have s3 := hx3.c3
  clear hx3
  refine skip_ (w1 := (w3.setCell ⟨w.heap.size, 4, none⟩ (.slice A18 (p + 1) c18)).setCell ⟨w.heap.size, 3, none⟩ (.slice A24 (p + 1) c24)) rfl rfl ?_ (hK.out _ _ ?_)
  · go_simp
    all_goals first | rfl | (constructor <;> rfl)
  clear hK K f3 s3 hHeld3
  replace HM3 := Lib.hid HM3.out.put
  generalize ((w3.setCell ⟨w.heap.size, 4, none⟩ (.slice A18 (p + 1) c18)).setCell ⟨w.heap.size, 3, none⟩ (.slice A24 (p + 1) c24)) = w4 at *
  refine done_ (by kernel_rfl) ?_
  go_wp2
  go_end0
  refine ⟨by first | rfl | trivial, .slice A18 (p + 1) c18, .slice A24 (p + 1) c24, xs ++ [v0, v1, v2, v3, v4], ?_, ?_, by rw [List.length_append, List.length_append, HLE.out]; rfl, Nat.le_refl _, by have := HM3.out.size; omega, fun b hb => (HM3.out.nown.lt b hb).2, fun b hb => (HM3.out.oown.lt b hb).2⟩
  · have h1 : (nms ++ [nm]).length = p + 1 := by rw [List.length_append, HPP.out]; rfl
    have h2 : (nms ++ [nm]).map Value.string = ns ++ [.string nm] := by rw [List.map_append, HNS.out]; rfl
    rw [h1, h2]
    exact HM3.out.from (fun _ h => h.elim)
  · have h1 : (nms ++ [nm]).length = p + 1 := by rw [List.length_append, HPP.out]; rfl
    have hpt : p = ts.length := by rw [HLE.out, HPP.out]
    rw [h1]
    have hS := HM3.out.far
    have hv := HVR.out.same (S' := fun b => b < w4.heap.size ∧ b ≠ w.heap.size ∧ (Value.slice A18 (p + 1) c18).ownBlock ≠ some b ∧ (Value.slice A24 (p + 1) c24).ownBlock ≠ some b) HM3.out.same hS
    rw [HPP.out] at hv
    refine (hv.congr (c' := fun j => (ts ++ [t]).getD j .leaf) (fun j hj => by simp only [List.getD_eq_getElem?_getD]; rw [List.getElem?_append_left (by omega)])).snoc ?_
    have e1 : (ts ++ [t]).getD p .leaf = t := by simp only [List.getD_eq_getElem?_getD]; rw [hpt, List.getElem?_append_right (Nat.le_refl _)]; simp
    rw [e1]
    exact VAL.mono hS (VAL.same HM3.out.same HX2.out)
  end Go.Proofs.YtfploakafbnigaaGreatDoor
