/-
  Joined texts: MkBackKit.
-/
import Derived.Test.YthndgekjccclnaaGreatDoorPkMkX
import Derived.Test.YthndgekjccclnaaGreatDoorPkMkF
import Derived.Test.YthndgekjccclnaaGreatDoorPkParB
import Derived.Test.YthndgekjccclnaaGreatDoorPkParC
namespace Go.Proofs.YthndgekjccclnaaGreatDoor
open Go.RowKit Val Num Go.Proofs.YthndgekjccclnaaGreatDoorW.PrintLast
set_option linter.unusedVariables false
set_option linter.unusedSimpArgs false

/-- a slice over a block known whole, a box, an object of two such slices -/
def BLKV (C : Nat) (T : TypeId) (cs : Array Value) (n : Nat) (w : World) (v : Value) : Prop := ∃ q, v = .slice (some ⟨q, 0, none⟩) n n ∧ C ≤ q ∧ BK w q T cs
def BOXV (C : Nat) (T : TypeId) (cs : Array Value) (w : World) (v : Value) : Prop := ∃ g, v = .pointer (some ⟨g, 0, none⟩) ∧ C ≤ g ∧ BK w g T cs
def OBJV (C : Nat) (T1 : TypeId) (cs1 : Array Value) (n1 : Nat) (T2 : TypeId) (cs2 : Array Value) (n2 : Nat) (w : World) (v : Value) : Prop :=
  ∃ q1 q2, v = .agg #[.int .i64 5, .bool false, .string ⟨#[]⟩, .slice (some ⟨q2, 0, none⟩) n2 n2, .slice (some ⟨q1, 0, none⟩) n1 n1] ∧ C ≤ q1 ∧ C ≤ q2 ∧ BK w q1 T1 cs1 ∧ BK w q2 T2 cs2
theorem BLKV.up {C : Nat} {T : TypeId} {cs : Array Value} {n : Nat} {w w' : World} {v : Value} (h : BLKV C T cs n w v) (hb : Below w.heap.size w w') : BLKV C T cs n w' v := by
  obtain ⟨q, e, h1, h2⟩ := h
  exact ⟨q, e, h1, h2.on hb⟩
theorem BOXV.up {C : Nat} {T : TypeId} {cs : Array Value} {w w' : World} {v : Value} (h : BOXV C T cs w v) (hb : Below w.heap.size w w') : BOXV C T cs w' v := by
  obtain ⟨q, e, h1, h2⟩ := h
  exact ⟨q, e, h1, h2.on hb⟩
theorem OBJV.up {C : Nat} {T1 T2 : TypeId} {cs1 cs2 : Array Value} {n1 n2 : Nat} {w w' : World} {v : Value} (h : OBJV C T1 cs1 n1 T2 cs2 n2 w v) (hb : Below w.heap.size w w') : OBJV C T1 cs1 n1 T2 cs2 n2 w' v := by
  obtain ⟨q1, q2, e, c1, c2, b1, b2⟩ := h
  exact ⟨q1, q2, e, c1, c2, b1.on hb, b2.on hb⟩
theorem BLKV_new {C : Nat} (w : World) (T : TypeId) (cs : Array Value) (n : Nat) (h : C ≤ w.heap.size) : BLKV C T cs n (w.alloc (.cells cs T)) (.slice (some ⟨w.heap.size, 0, none⟩) n n) := ⟨_, rfl, h, BK.new w T cs⟩
theorem BOXV_new {C : Nat} (w : World) (T : TypeId) (cs : Array Value) (h : C ≤ w.heap.size) : BOXV C T cs (w.alloc (.cells cs T)) (.pointer (some ⟨w.heap.size, 0, none⟩)) := ⟨_, rfl, h, BK.new w T cs⟩
theorem BK.ne {w : World} {g q : Nat} {T T' : TypeId} {cs cs' : Array Value} (h : BK w g T cs) (k : BK w q T' cs') (hs : cs.size ≠ cs'.size) : g ≠ q := by
  intro e
  subst e
  unfold BK at h k
  rw [h] at k
  injection k with k
  injection k with k1 k2
  exact hs (by rw [k1])
theorem Bring2_any (i n : Int) (w : World) (hi : I64 i) (hn : 0 < n ∧ n ≤ 9007199254740992) : Calls Tryz.prog 31 #[.int .i64 i, .int .i64 n] w (Made (.int .i64 (i % n)) w) := by
  have h0 : decide (n ≤ 0) = false := by simp; omega
  have hi1 := hi.1
  have hi2 := hi.2
  have h1 : i.tmod n < 0 → wrap64 (i.tmod n + n) = i % n := fun h => by
    have e := Int.tmod_eq_emod (a := i) (b := n)
    have h3 := Int.emod_lt_of_pos i hn.1
    have h4 := Int.emod_nonneg i (show n ≠ 0 by omega)
    split at e
    · omega
    · unfold wrap64; omega
  have h2 : 0 ≤ i.tmod n → i.tmod n = i % n := fun h => by
    have e := Int.tmod_eq_emod (a := i) (b := n)
    have h3 := Int.emod_lt_of_pos i hn.1
    split at e
    · omega
    · omega
  have H1 := Lib.hid h1
  have H2 := Lib.hid h2
  clear h1 h2 hi
  go_enter Tryz.func31, Tryz.ntmps31
  go_wp2
  · go_ret
    exact ⟨by rw [H1.out (by assumption)]; rfl, Below.refl _ _⟩
  · go_ret
    exact ⟨by rw [H2.out (by assumption)]; rfl, Below.refl _ _⟩
theorem far_ok (x : Int) : Far (x % 2147483648) := ⟨Int.emod_nonneg _ (by omega), by have := Int.emod_lt_of_pos x (b := 2147483648) (by omega); omega⟩
theorem far_64 (x : Int) : I64 (x % 2147483648) := by have := far_ok x; unfold Far at this; unfold I64; omega

def tl_far (z : Zone) (x1 x2 : Int) (w : World) : Tolds := [(0, 3, fun _ v => v = .pointer (some ⟨w.heap.size, 0, none⟩)), (1, 4, fun _ v => v = .int .i64 x1), (2, 5, fun _ v => v = .int .i64 (x1 % 2147483648)), (3, 6, fun _ v => v = .pointer (some ⟨w.heap.size, 1, none⟩)), (4, 7, fun _ v => v = .int .i64 x2), (5, 8, fun _ v => v = .int .i64 (x2 % 2147483648)), (6, 9, fun _ v => v = .agg #[.int .i64 (x1 % 2147483648), .int .i64 (x2 % 2147483648)])]
theorem tl_far_ok (z : Zone) (x1 x2 : Int) (w : World) : (tl_far z x1 x2 w).ok 7 = true := by kernel_rfl
theorem tl_far_up (z : Zone) (x1 x2 : Int) (w : World) : (tl_far z x1 x2 w).up := (tup_cons (fun _ _ _ h _ => h) (tup_cons (fun _ _ _ h _ => h) (tup_cons (fun _ _ _ h _ => h) (tup_cons (fun _ _ _ h _ => h) (tup_cons (fun _ _ _ h _ => h) (tup_cons (fun _ _ _ h _ => h) (tup_cons (fun _ _ _ h _ => h) tup_nil)))))))

set_option maxRecDepth 100000 in
set_option maxHeartbeats 4000000 in
theorem far_any (x1 x2 : Int) (w : World) (ia : I64 x1) (ib : I64 x2) : Calls Tryz.prog 36 #[.agg #[.int .i64 x1, .int .i64 x2]] w (Made (.agg #[.int .i64 (x1 % 2147483648), .int .i64 (x2 % 2147483648)]) w) := by
  have Hia := Lib.hid ia
  have Hib := Lib.hid ib
  clear ia ib
  go_enter Tryz.func36, Tryz.ntmps36
  go_wp2_with fail
  have HB : Hid (Below w.heap.size w ((w.alloc (.cells #[.int .i64 x1, .int .i64 x2] 53)).alloc (.cells #[.int .i64 0, .int .i64 0] 53))) := Lib.hid (al2_below w _ _)
  have HX : Hid (BK ((w.alloc (.cells #[.int .i64 x1, .int .i64 x2] 53)).alloc (.cells #[.int .i64 0, .int .i64 0] 53)) w.heap.size 53 #[.int .i64 x1, .int .i64 x2]) := Lib.hid (al2_0 w _ _)
  have HR : Hid (BK ((w.alloc (.cells #[.int .i64 x1, .int .i64 x2] 53)).alloc (.cells #[.int .i64 0, .int .i64 0] 53)) (w.heap.size + 1) 53 #[.int .i64 0, .int .i64 0]) := Lib.hid (al2_1 w _ _)
  generalize ((w.alloc (.cells #[.int .i64 x1, .int .i64 x2] 53)).alloc (.cells #[.int .i64 0, .int .i64 0] 53)) = w1 at *
  refine start_ (n := 8) (S := fun w' => True) (ds := []) #[false, false, false, false, false, false, false, false] (by kernel_rfl) rfl rfl trivial (fun hHeld => ?_)
  clear hHeld
  have hb : Below w1.heap.size w1 w1.drew := (Below.refl _ _).drew
  replace HB := Lib.hid (HB.out.trans (hb.mono HB.out.size))
  replace HR := Lib.hid (HR.out.on hb)
  replace HX := Lib.hid (HX.out.on hb)
  clear hb
  generalize w1.drew = c at *
  refine inv_ (B := [0, 1, 3, 0, 8, 31, 63, 127]) [0, 1, 2, 3, 4, 5, 6, 7] (ToldI _ (tl_far (zNew c.heap.size) x1 x2 w) 7 c _) rfl (by kernel_rfl) (by kernel_rfl) (by kernel_rfl) told_begin ?_ (told_end (by kernel_rfl))
  refine steps_cons (told_step 0 (tl_far_ok (zNew c.heap.size) x1 x2 w) (tl_far_up (zNew c.heap.size) x1 x2 w) rfl (by kernel_rfl) ?_) ?_
  · intro b V a w' ha hB hF hon
    refine ⟨_, rfl, rfl, fun K hK => ?_⟩
    have e1 : a.tmps[1]? = some (.pointer (some ⟨w.heap.size, 0, none⟩)) := by rw [ha]; exact (putSel_off (by rfl)).trans rfl
    refine value_ (w1 := w') (v := .pointer (some ⟨w.heap.size, 0, none⟩)) rfl rfl ?_ (hK _ _ (Below.refl _ _) rfl)
    clear ha hF hon hK K
    go_simp
    all_goals first | rfl | (constructor <;> rfl)
  refine steps_cons (told_step 1 (tl_far_ok (zNew c.heap.size) x1 x2 w) (tl_far_up (zNew c.heap.size) x1 x2 w) rfl (by kernel_rfl) ?_) ?_
  · intro b V a w' ha hB hF hon
    refine ⟨_, rfl, rfl, fun K hK => ?_⟩
    have e3 := told_get 0 (tl_far_ok (zNew c.heap.size) x1 x2 w) rfl ha (hon 0 (by kernel_rfl)) (by kernel_rfl)
    have F3 : V 0 = .pointer (some ⟨w.heap.size, 0, none⟩) := told_fact 0 hF rfl (hon 0 (by kernel_rfl))
    rw [F3] at e3
    have hg := HX.out.on hB
    have y0 := hg.c 0 rfl
    clear hg
    refine value_ (w1 := w') (v := .int .i64 x1) rfl rfl ?_ (hK _ _ (Below.refl _ _) rfl)
    clear ha hF hon hK K
    go_simp
    all_goals first | rfl | (constructor <;> rfl)
  refine steps_cons (told_step 2 (tl_far_ok (zNew c.heap.size) x1 x2 w) (tl_far_up (zNew c.heap.size) x1 x2 w) rfl (by kernel_rfl) ?_) ?_
  · intro b V a w' ha hB hF hon
    refine ⟨_, rfl, rfl, fun K hK => ?_⟩
    have e4 := told_get 1 (tl_far_ok (zNew c.heap.size) x1 x2 w) rfl ha (hon 1 (by kernel_rfl)) (by kernel_rfl)
    have F4 : V 1 = .int .i64 x1 := told_fact 1 hF rfl (hon 1 (by kernel_rfl))
    rw [F4] at e4
    refine goes_ Tryz.func31 (by kernel_rfl) rfl #[.int .i64 x1, .int .i64 2147483648] rfl rfl rfl (by simp only [List.map_toArray, List.map_cons, List.map_nil, Act.eval, Array.getD_eq_getD_getElem?, e4, Option.getD_some]) ?_
    refine (Bring2_any x1 2147483648 w' Hia.out (by omega)).mono ?_
    rintro e w'' ⟨rfl, hb⟩
    exact ⟨_, rfl, hK _ w'' hb rfl⟩
  refine steps_cons (told_step 3 (tl_far_ok (zNew c.heap.size) x1 x2 w) (tl_far_up (zNew c.heap.size) x1 x2 w) rfl (by kernel_rfl) ?_) ?_
  · intro b V a w' ha hB hF hon
    refine ⟨_, rfl, rfl, fun K hK => ?_⟩
    have e1 : a.tmps[1]? = some (.pointer (some ⟨w.heap.size, 0, none⟩)) := by rw [ha]; exact (putSel_off (by rfl)).trans rfl
    refine value_ (w1 := w') (v := .pointer (some ⟨w.heap.size, 1, none⟩)) rfl rfl ?_ (hK _ _ (Below.refl _ _) rfl)
    clear ha hF hon hK K
    go_simp
    all_goals first | rfl | (constructor <;> rfl)
  refine steps_cons (told_step 4 (tl_far_ok (zNew c.heap.size) x1 x2 w) (tl_far_up (zNew c.heap.size) x1 x2 w) rfl (by kernel_rfl) ?_) ?_
  · intro b V a w' ha hB hF hon
    refine ⟨_, rfl, rfl, fun K hK => ?_⟩
    have e6 := told_get 3 (tl_far_ok (zNew c.heap.size) x1 x2 w) rfl ha (hon 3 (by kernel_rfl)) (by kernel_rfl)
    have F6 : V 3 = .pointer (some ⟨w.heap.size, 1, none⟩) := told_fact 3 hF rfl (hon 3 (by kernel_rfl))
    rw [F6] at e6
    have hg := HX.out.on hB
    have y1 := hg.c 1 rfl
    clear hg
    refine value_ (w1 := w') (v := .int .i64 x2) rfl rfl ?_ (hK _ _ (Below.refl _ _) rfl)
    clear ha hF hon hK K
    go_simp
    all_goals first | rfl | (constructor <;> rfl)
  refine steps_cons (told_step 5 (tl_far_ok (zNew c.heap.size) x1 x2 w) (tl_far_up (zNew c.heap.size) x1 x2 w) rfl (by kernel_rfl) ?_) ?_
  · intro b V a w' ha hB hF hon
    refine ⟨_, rfl, rfl, fun K hK => ?_⟩
    have e7 := told_get 4 (tl_far_ok (zNew c.heap.size) x1 x2 w) rfl ha (hon 4 (by kernel_rfl)) (by kernel_rfl)
    have F7 : V 4 = .int .i64 x2 := told_fact 4 hF rfl (hon 4 (by kernel_rfl))
    rw [F7] at e7
    refine goes_ Tryz.func31 (by kernel_rfl) rfl #[.int .i64 x2, .int .i64 2147483648] rfl rfl rfl (by simp only [List.map_toArray, List.map_cons, List.map_nil, Act.eval, Array.getD_eq_getD_getElem?, e7, Option.getD_some]) ?_
    refine (Bring2_any x2 2147483648 w' Hib.out (by omega)).mono ?_
    rintro e w'' ⟨rfl, hb⟩
    exact ⟨_, rfl, hK _ w'' hb rfl⟩
  refine steps_cons (told_step 6 (tl_far_ok (zNew c.heap.size) x1 x2 w) (tl_far_up (zNew c.heap.size) x1 x2 w) rfl (by kernel_rfl) ?_) ?_
  · intro b V a w' ha hB hF hon
    refine ⟨_, rfl, rfl, fun K hK => ?_⟩
    have e5 := told_get 2 (tl_far_ok (zNew c.heap.size) x1 x2 w) rfl ha (hon 2 (by kernel_rfl)) (by kernel_rfl)
    have F5 : V 2 = .int .i64 (x1 % 2147483648) := told_fact 2 hF rfl (hon 2 (by kernel_rfl))
    rw [F5] at e5
    have e8 := told_get 5 (tl_far_ok (zNew c.heap.size) x1 x2 w) rfl ha (hon 5 (by kernel_rfl)) (by kernel_rfl)
    have F8 : V 5 = .int .i64 (x2 % 2147483648) := told_fact 5 hF rfl (hon 5 (by kernel_rfl))
    rw [F8] at e8
    refine value_ (w1 := w') (v := .agg #[.int .i64 (x1 % 2147483648), .int .i64 (x2 % 2147483648)]) rfl rfl ?_ (hK _ _ (Below.refl _ _) rfl)
    clear ha hF hon hK K
    go_simp
    all_goals first | rfl | (constructor <;> rfl)
  refine steps_cons (told_last ?_ ?_) steps_nil
  · intro e he; simp only [tl_far, List.mem_cons, List.mem_nil_iff, or_false] at he; rcases he with rfl | rfl | rfl | rfl | rfl | rfl | rfl <;> kernel_rfl
  intro V a w' ha hB hF
  refine ⟨_, rfl, rfl, fun K hK => ?_⟩
  have e9 := told_get 6 (tl_far_ok (zNew c.heap.size) x1 x2 w) rfl ha rfl (by kernel_rfl)
  have F9 : V 6 = .agg #[.int .i64 (x1 % 2147483648), .int .i64 (x2 % 2147483648)] := hF _ (List.mem_of_getElem? (i := 6) rfl)
  rw [F9] at e9
  have e2 : a.tmps[2]? = some (.pointer (some ⟨w.heap.size + 1, 0, none⟩)) := by rw [ha]; exact (putSel_off (by rfl)).trans rfl
  have hg := HR.out.on hB
  have y0 := hg.c 0 rfl
  have y1 := hg.c 1 rfl
  have f0 := hg.fr 0
  have f1 := hg.fr 1
  obtain ⟨r0, r1⟩ := hg.two rfl (.int .i64 (x1 % 2147483648)) (.int .i64 (x2 % 2147483648))
  refine skip_ (w1 := (w'.setCell ⟨w.heap.size + 1, 0, none⟩ (.int .i64 (x1 % 2147483648))).setCell ⟨w.heap.size + 1, 1, none⟩ (.int .i64 (x2 % 2147483648))) rfl rfl ?_ (hK _ _ ?_)
  · clear ha hF hK K
    go_simp
    all_goals first | rfl | (constructor <;> rfl)
  clear hK K hF e9 e2 y0 y1 f0 f1 hg
  have HB' := Lib.hid hB
  clear hB
  rw [ha]
  clear ha
  simp only [tl_far, Tolds.put, List.map_cons, List.map_nil, putSel, if_true, Act.put, List.setIfInBounds_toArray, List.set_cons_zero, List.set_cons_succ]
  generalize V 0 = u0
  generalize V 1 = u1
  generalize V 2 = u2
  generalize V 3 = u3
  generalize V 4 = u4
  generalize V 5 = u5
  generalize V 6 = u6
  try clear V
  go_wp2
  exact bodyPost_ret (v := .agg #[.int .i64 (x1 % 2147483648), .int .i64 (x2 % 2147483648)]) (by simp [results, Tryz.results36, go_sem, r0, r1]) rfl ⟨rfl, ((HB.out.trans (HB'.out.mono HB.out.size)).setCell (p := ⟨w.heap.size + 1, 0, none⟩) (by show w.heap.size ≤ w.heap.size + 1; omega) _).setCell (p := ⟨w.heap.size + 1, 1, none⟩) (by show w.heap.size ≤ w.heap.size + 1; omega) _⟩
/-- the loop's memory: both rows of its own; H: where what is made later begins -/
structure BkM (w : World) (hs : Array Value) (H : Nat) (wv ev : Value) (k : Nat) (ws xs : List Value) (c : Nat → VT) (W : World) : Prop where
  how : BK W w.heap.size 51 hs
  below : Below w.heap.size w W
  wown : W.ownsRow (w.heap.size + 1) 57 6 wv k ws
  eown : W.ownsRow (w.heap.size + 1) 30 5 ev k xs
  row : VR W (fun b => w.heap.size + 1 ≤ b ∧ b < H ∧ wv.ownBlock ≠ some b ∧ ev.ownBlock ≠ some b) xs k c
  apart : ∀ b, wv.ownBlock = some b → ev.ownBlock ≠ some b
  wlt : ∀ b, wv.ownBlock = some b → b < H
  elt : ∀ b, ev.ownBlock = some b → b < H
  size : w.heap.size + 1 ≤ H ∧ H ≤ W.heap.size
theorem own_below {w w' : World} {H base e size n : Nat} {v : Value} {xs : List Value} (h : w.ownsRow base e size v n xs) (hb : Below H w w') (hlt : ∀ b, v.ownBlock = some b → b < H) : w'.ownsRow base e size v n xs := by
  obtain ⟨h1, h2⟩ := h
  refine ⟨h1, ?_⟩
  rcases h2 with h2 | ⟨b, cap, cur, rfl, hbb, hh, h3⟩
  · exact .inl h2
  · exact .inr ⟨b, cap, cur, rfl, hbb, by rw [hb.block b (hlt b rfl)]; exact hh, h3⟩
theorem BkM.on {w : World} {hs : Array Value} {H : Nat} {wv ev : Value} {k : Nat} {ws xs : List Value} {c : Nat → VT} {W W' : World} (h : BkM w hs H wv ev k ws xs c W) (hb : Below H W W') : BkM w hs H wv ev k ws xs c W' where
  how := (hb.block _ (by have := h.size; omega)).trans h.how
  below := h.below.trans (hb.mono (by have := h.size; omega))
  wown := own_below h.wown hb h.wlt
  eown := own_below h.eown hb h.elt
  row := h.row.same (below_same hb (fun b hb => hb.2.1)) (fun b h => h)
  apart := h.apart
  wlt := h.wlt
  elt := h.elt
  size := ⟨h.size.1, Nat.le_trans h.size.2 hb.size⟩
theorem ts_of_bk {w : World} {q : Nat} {T : TypeId} {cs : Array Value} {S : Nat → Prop} (h : BK w q T cs) (l : List ByteArray) (hx : cs = (l.map Value.string).toArray) (hS : S q) : TS w S (some ⟨q, 0, none⟩) l :=
  .inr ⟨q, 0, rfl, hS, fun j hj => by rw [Nat.zero_add]; exact h.c j (by rw [hx]; simp [hj])⟩
theorem vs_of_bk {w : World} {q : Nat} {T : TypeId} {cs : Array Value} {S : Nat → Prop} (h : BK w q T cs) (l : List VT) (hr : VR w S cs.toList l.length (fun j => l.getD j .leaf)) (hS : S q) : VS w S (some ⟨q, 0, none⟩) l.length (fun j => l.getD j .leaf) := by
  refine .inr ⟨q, 0, rfl, hS, fun j hj => ?_⟩
  obtain ⟨v0, v1, v2, v3, v4, e0, e1, e2, e3, e4, hv⟩ := hr.2 j hj
  have k : ∀ i u, cs.toList[i]? = some u → w.cell? ⟨q, 0 + i, none⟩ = some u := fun i u hk => by rw [Nat.zero_add]; exact h.c i (by rw [← Array.getElem?_toList]; exact hk)
  exact ⟨v0, v1, v2, v3, v4, ⟨k _ _ e0, by rw [Nat.add_assoc]; exact k _ _ e1, by rw [Nat.add_assoc]; exact k _ _ e2, by rw [Nat.add_assoc]; exact k _ _ e3, by rw [Nat.add_assoc]; exact k _ _ e4⟩, hv⟩
theorem BkM.same20 {w : World} {hs : Array Value} {H : Nat} {wv ev : Value} {p : Nat} {ws xs : List Value} {c : Nat → VT} {W W20 : World} {o1 : Obj} (h : BkM w hs H wv ev p ws xs c W) (hg1 : (W.alloc o1).grownBy W20 wv.ownBlock) (b : Nat) (hb : b < W.heap.size) (hne : wv.ownBlock ≠ some b) : W20.heap[b]? = W.heap[b]? :=
  (hg1.block b (by simp; omega) (fun e => hne e.symm)).trans ((made_end (w := W) o1).block b hb)
theorem BkM.e20 {w : World} {hs : Array Value} {H : Nat} {wv ev : Value} {p : Nat} {ws xs : List Value} {c : Nat → VT} {W W20 : World} {o1 : Obj} (h : BkM w hs H wv ev p ws xs c W) (hg1 : (W.alloc o1).grownBy W20 wv.ownBlock) : W20.ownsRow (w.heap.size + 1) 30 5 ev p xs :=
  (own_on h.eown (made_end o1)).kept hg1 (by
    cases hc : ev.ownBlock with
    | none => exact .inl rfl
    | some k => exact .inr (fun e => h.apart k e.symm hc))
theorem BkM.step {w : World} {hs : Array Value} {H : Nat} {wv ev : Value} {p : Nat} {ws ws' xs : List Value} {c : Nat → VT} {W W20 W21 : World} {o1 o2 : Obj} {gw capw ge cape : Nat} {v0 v1 v2 v3 v4 : Value} (h : BkM w hs H wv ev p ws xs c W)
    (hv : VAL W (fun b => H ≤ b ∧ b < W.heap.size) (c p) (.agg #[v0, v1, v2, v3, v4]))
    (hown1 : W20.ownsRow (w.heap.size + 1) 57 6 (.slice (some ⟨gw, 0, none⟩) (p + 1) capw) (p + 1) ws') (hg1 : (W.alloc o1).grownBy W20 wv.ownBlock) (hat1 : wv.ownBlock = some gw ∨ gw = W.heap.size + 1)
    (hown2 : W21.ownsRow (w.heap.size + 1) 30 5 (.slice (some ⟨ge, 0, none⟩) (p + 1) cape) (p + 1) (xs ++ [v0, v1, v2, v3, v4])) (hg2 : (W20.alloc o2).grownBy W21 ev.ownBlock) (hat2 : ev.ownBlock = some ge ∨ ge = W20.heap.size + 1) :
    BkM w hs W21.heap.size (.slice (some ⟨gw, 0, none⟩) (p + 1) capw) (.slice (some ⟨ge, 0, none⟩) (p + 1) cape) (p + 1) ws' (xs ++ [v0, v1, v2, v3, v4]) c W21 := by
  have s1 : (W.alloc o1).heap.size = W.heap.size + 1 := by simp
  have s2 : (W20.alloc o2).heap.size = W20.heap.size + 1 := by simp
  have hs20 := hg1.size
  have hs21 := hg2.size
  rw [s1] at hs20
  rw [s2] at hs21
  have same1 := h.same20 hg1
  have same2 : ∀ b, b < W20.heap.size → ev.ownBlock ≠ some b → W21.heap[b]? = W20.heap[b]? := fun b hb hne => (hg2.block b (by omega) (fun e => hne e.symm)).trans ((made_end (w := W20) o2).block b hb)
  have same : ∀ b, b < W.heap.size → wv.ownBlock ≠ some b → ev.ownBlock ≠ some b → W21.heap[b]? = W.heap[b]? := fun b hb h1 h2 => (same2 b (by omega) h2).trans (same1 b hb h1)
  have hH := h.size
  have lw := hown1.lt gw rfl
  have le := hown2.lt ge rfl
  have nw : ∀ b, b < W.heap.size → wv.ownBlock ≠ some b → gw ≠ b := fun b hb h1 e => by
    rcases hat1 with h2 | h2
    · exact h1 (by rw [h2, e])
    · omega
  have ne : ∀ b, b < W.heap.size → ev.ownBlock ≠ some b → ge ≠ b := fun b hb h1 e => by
    rcases hat2 with h2 | h2
    · exact h1 (by rw [h2, e])
    · omega
  have new : gw ≠ ge := fun e => by
    rcases hat1 with h1 | h1 <;> rcases hat2 with h2 | h2
    · exact h.apart gw h1 (by rw [h2, e])
    · have := h.wlt gw h1; omega
    · have := h.elt ge h2; omega
    · omega
  have wlo : ∀ k, wv.ownBlock = some k → w.heap.size + 1 ≤ k := fun k hk => (h.wown.lt k hk).1
  have elo : ∀ k, ev.ownBlock = some k → w.heap.size + 1 ≤ k := fun k hk => (h.eown.lt k hk).1
  refine ⟨?_, ?_, ?_, hown2, ?_, ?_, ?_, ?_, ?_⟩
  · exact (same _ (by omega) (fun e => by have := wlo _ e; omega) (fun e => by have := elo _ e; omega)).trans h.how
  · have b1 : Below w.heap.size w W20 := (h.below.trans ((made_end (w := W) o1).mono (by omega))).grown hg1 (by omega) (fun k hk => by have := wlo k hk; omega)
    exact (b1.trans ((made_end (w := W20) o2).mono (by omega))).grown hg2 (by omega) (fun k hk => by have := elo k hk; omega)
  · exact (own_on hown1 (made_end o2)).kept hg2 (.inr (fun e => by
      have e' : some gw = ev.ownBlock := e
      rcases hat1 with h1 | h1
      · exact h.apart gw h1 e'.symm
      · have := h.elt gw e'.symm; omega))
  · have hz : Same (fun b => w.heap.size + 1 ≤ b ∧ b < H ∧ wv.ownBlock ≠ some b ∧ ev.ownBlock ≠ some b) W W21 := fun b hb => same b (by omega) hb.2.2.1 hb.2.2.2
    have hr := h.row.same (S' := fun b => w.heap.size + 1 ≤ b ∧ b < W21.heap.size ∧ (Value.slice (some ⟨gw, 0, none⟩) (p + 1) capw).ownBlock ≠ some b ∧ (Value.slice (some ⟨ge, 0, none⟩) (p + 1) cape).ownBlock ≠ some b) hz (fun b hb => ⟨hb.1, by omega, fun e => nw b (by omega) hb.2.2.1 (by simpa [Value.ownBlock] using e), fun e => ne b (by omega) hb.2.2.2 (by simpa [Value.ownBlock] using e)⟩)
    refine hr.snoc ((hv.same (fun b hb => same b hb.2 (fun e => by have := h.wlt b e; omega) (fun e => by have := h.elt b e; omega))).mono (fun b hb => ⟨by omega, by omega, fun e => nw b hb.2 (fun e2 => by have := h.wlt b e2; omega) (by simpa [Value.ownBlock] using e), fun e => ne b hb.2 (fun e2 => by have := h.elt b e2; omega) (by simpa [Value.ownBlock] using e)⟩))
  · intro b hb e
    have e1 : gw = b := by simpa [Value.ownBlock] using hb
    have e2 : ge = b := by simpa [Value.ownBlock] using e
    exact new (by rw [e1, e2])
  · intro b hb
    have e1 : gw = b := by simpa [Value.ownBlock] using hb
    omega
  · intro b hb
    have e1 : ge = b := by simpa [Value.ownBlock] using hb
    omega
  · exact ⟨by omega, Nat.le_refl _⟩
theorem BK.eq {w w' : World} {g : Nat} {T : TypeId} {cs : Array Value} (h : BK w g T cs) (e : w'.heap[g]? = w.heap[g]?) : BK w' g T cs := e.trans h
theorem own_put {w : World} {base e size n : Nat} {v : Value} {xs : List Value} (h : w.ownsRow base e size v n xs) {p : Addr} (x : Value) (hg : v.ownBlock ≠ some p.block) : (w.setCell p x).ownsRow base e size v n xs := by
  obtain ⟨h1, h2⟩ := h
  refine ⟨h1, ?_⟩
  rcases h2 with h2 | ⟨b, cap, cur, rfl, hb, hh, h3⟩
  · exact .inl h2
  · exact .inr ⟨b, cap, cur, rfl, hb, by rw [Below.heap_setCell _ _ _ _ (fun e => hg (by rw [← e]; rfl))]; exact hh, h3⟩
theorem ts_row {w : World} {base e g n cap : Nat} {xs : List Value} {S : Nat → Prop} (l : List ByteArray) (h : w.ownsRow base e 1 (.slice (some ⟨g, 0, none⟩) n cap) n xs) (hx : xs = l.map Value.string) (hS : S g) : TS w S (some ⟨g, 0, none⟩) l := by
  subst hx
  exact .inr ⟨g, 0, rfl, hS, fun j hj => by rw [Nat.zero_add]; exact own_cell h _ _ (by simp [hj])⟩
theorem vs_row {w : World} {base e g n cap : Nat} {xs : List Value} {S S' : Nat → Prop} {c : Nat → VT} (h : w.ownsRow base e 5 (.slice (some ⟨g, 0, none⟩) n cap) n xs) (hr : VR w S xs n c) (hS : ∀ b, S b → S' b) (hg : S' g) : VS w S' (some ⟨g, 0, none⟩) n c := by
  obtain ⟨A, cap', e, h⟩ := VS_of_own h hr hS (fun b hb => by
    have e : g = b := by simpa [Value.ownBlock] using hb
    rw [← e]; exact hg)
  injection e with e1 e2 e3
  rw [e1]; exact h
theorem row_two {w : World} {S : Nat → Prop} {A : Option Addr} {c : Nat → VT} (h : VS w S A 2 c) (hS : ∀ b, S b → b < w.heap.size) :
    ∃ br ofr p0 p1 p2 p3 p4 p5 p6 p7 p8 p9, A = some ⟨br, ofr, none⟩ ∧ S br ∧ RowAt br ofr [p0, p1, p2, p3, p4, p5, p6, p7, p8, p9] w ∧ VAL w S (c 0) (.agg #[p0, p1, p2, p3, p4]) ∧ VAL w S (c 1) (.agg #[p5, p6, p7, p8, p9]) := by
  rcases h with h | ⟨br, ofr, rfl, hb, hc⟩
  · cases h
  · obtain ⟨p0, p1, p2, p3, p4, ⟨a0, a1, a2, a3, a4⟩, hA⟩ := hc 0 (by omega)
    obtain ⟨p5, p6, p7, p8, p9, ⟨b0, b1, b2, b3, b4⟩, hB⟩ := hc 1 (by omega)
    refine ⟨br, ofr, p0, p1, p2, p3, p4, p5, p6, p7, p8, p9, rfl, hb, ⟨hS br hb, fun i v hv => ?_⟩, hA, hB⟩
    match i, hv with
    | 0, hv => cases hv; exact a0
    | 1, hv => cases hv; exact a1
    | 2, hv => cases hv; exact a2
    | 3, hv => cases hv; exact a3
    | 4, hv => cases hv; exact a4
    | 5, hv => cases hv; exact b0
    | 6, hv => cases hv; exact b1
    | 7, hv => cases hv; exact b2
    | 8, hv => cases hv; exact b3
    | 9, hv => cases hv; exact b4
    | i + 10, hv => cases hv
theorem RowAt.same {b o : Nat} {l : List Value} {w w' : World} (h : RowAt b o l w) (hb : w'.heap[b]? = w.heap[b]?) : RowAt b o l w' := by
  refine ⟨?_, fun i v hv => (World.cell?_of_block (w := w) hb).trans (h.2 i v hv)⟩
  have h0 := h.1
  have h1 : w.heap[b]? = some w.heap[b] := Array.getElem?_eq_getElem h0
  exact (Array.getElem?_eq_some_iff.1 (hb.trans h1)).1
theorem vs_congr {w : World} {S : Nat → Prop} {A : Option Addr} {n : Nat} {c c' : Nat → VT} (h : VS w S A n c) (e : ∀ j, j < n → c j = c' j) : VS w S A n c' := by
  rcases h with h | ⟨b, off, e1, hb, hc⟩
  · exact .inl h
  · refine .inr ⟨b, off, e1, hb, fun j hj => ?_⟩
    obtain ⟨v0, v1, v2, v3, v4, h5, hv⟩ := hc j hj
    exact ⟨v0, v1, v2, v3, v4, h5, e j hj ▸ hv⟩
theorem sumTo_le (f : Nat → Nat) (B : Nat) : ∀ n, (∀ j, j < n → f j ≤ B) → VT.sumTo f n ≤ n * B
  | 0, _ => Nat.le_of_eq (Nat.zero_mul _).symm
  | n + 1, h => by
    have h1 := sumTo_le f B n (fun j hj => h j (by omega))
    have h2 := h n (by omega)
    show VT.sumTo f n + f n ≤ (n + 1) * B
    rw [Nat.add_mul]; omega
theorem far_i {x : Int} (h : Far x) : I64 x := by unfold Far at h; unfold I64; omega
theorem rngT_bulk (sw : Bool) (a b c d : Int) (ha : I64 a) (hb : I64 b) (hc : I64 c) (hd : I64 d) : (rngT sw a b c d).bulk ≤ 300 := by
  cases sw
  · exact rangeT_bulk a b c d ha hb hc hd
  · have := posT_bulk a b ha hb
    have := posT_bulk c d hc hd
    show 1 + 0 + 3 + 3 + (3 + (1 + (5 + 0))) + (0 + (posT c d).bulk + (1 + 1 + 0 + 0 + 0 + 0) + (posT a b).bulk) ≤ 300
    omega
theorem edT_bulk (sw : Bool) (x : VT.Ed) (h : FarEd x) : (edT sw x).bulk ≤ 400 + x.text.size := by
  obtain ⟨wh, a, b, c, d, tx⟩ := x
  obtain ⟨-, ha, hb, hc, hd⟩ := h
  cases wh
  · have := rngT_bulk sw a b c d (far_i ha) (far_i hb) (far_i hc) (far_i hd)
    show 1 + 0 + 3 + 3 + (11 + (4 + (5 + 0))) + (0 + (1 + 1 + 0 + 0 + 0 + 0) + (1 + tx.size + 0 + 0 + 0 + 0) + (rngT sw a b c d).bulk) ≤ 400 + tx.size
    omega
  · show 1 + 0 + 2 + 2 + (11 + (4 + 0)) + (0 + (1 + 1 + 0 + 0 + 0 + 0) + (1 + tx.size + 0 + 0 + 0 + 0)) ≤ 400 + tx.size
    omega
theorem back_bulk (sw sw2 : Bool) (xs : List VT.Ed) (ver : Int) (s : ByteArray) (hx : ∀ x ∈ xs, FarEd x) (ht : ∀ x ∈ xs, x.text.size ≤ 1048576) (hn : xs.length ≤ 32) (hv : I64 ver) (hs : s.size ≤ 256) : (backT sw2 (xs.map (edT sw)) (docT ver s)).bulk ≤ 999999970 := by
  have h1 : (docT ver s).bulk ≤ 500 := by
    have := nbT_bulk ver hv
    show 1 + 0 + 3 + 3 + (7 + (3 + (1 + 0))) + (0 + (nbT ver).bulk + (1 + s.size + 0 + 0 + 0 + 0) + (1 + 1 + 0 + 0 + 0 + 0)) ≤ 500
    omega
  have h2 : (lsT (xs.map (edT sw))).bulk ≤ 1 + 32 + 32 * 1049000 := by
    have e : (lsT (xs.map (edT sw))).bulk = 1 + 0 + (xs.map (edT sw)).length + 0 + 0 + VT.sumTo (fun j => ((xs.map (edT sw)).getD j .leaf).bulk) (xs.map (edT sw)).length := rfl
    have := sumTo_le (fun j => ((xs.map (edT sw)).getD j .leaf).bulk) 1049000 (xs.map (edT sw)).length (fun j hj => by
      have hj' : j < xs.length := by simpa using hj
      show ((xs.map (edT sw)).getD j .leaf).bulk ≤ 1049000
      rw [List.getD_eq_getElem?_getD]
      simp only [List.getElem?_map, List.getElem?_eq_getElem hj', Option.map_some, Option.getD_some]
      have := edT_bulk sw xs[j] (hx _ (List.getElem_mem hj'))
      have := ht xs[j] (List.getElem_mem hj')
      omega)
    rw [List.length_map] at this e
    have h3 : xs.length * 1049000 ≤ 32 * 1049000 := Nat.mul_le_mul_right _ hn
    omega
  cases sw2
  · show 1 + 0 + 2 + 2 + (14 + (12 + 0)) + (0 + (lsT (xs.map (edT sw))).bulk + (docT ver s).bulk) ≤ _
    omega
  · show 1 + 0 + 4 + 4 + (14 + (1 + (12 + (14 + 0)))) + (0 + (1 + 3 + 0 + 0 + 0 + 0) + (1 + 0 + 0 + 0 + 0 + 0) + (docT ver s).bulk + (lsT (xs.map (edT sw))).bulk) ≤ _
    omega
end Go.Proofs.YthndgekjccclnaaGreatDoor
