/-
  Joined texts: MkSymKit MkSym.
-/
import Derived.Test.YthndgekjccclnaaGreatDoorPkMkF
import Derived.Test.YthndgekjccclnaaGreatDoorPkMkE
import Derived.Test.YthndgekjccclnaaGreatDoorPkMkG
namespace Go.Proofs.YthndgekjccclnaaGreatDoor
open Go.RowKit Val Num
set_option linter.unusedVariables false
set_option linter.unusedSimpArgs false
/-- symbols: kids 0 to n - 1 are its list -/
inductive SY where
  | leaf
  | mk (nm : ByteArray) (k a b c d e f g h : Int) (n : Nat) (kids : Nat → SY)
def lsF (n : Nat) (c : Nat → VT) : VT := .mk 4 false .empty n c []
def nameN : ByteArray := ⟨#[110, 97, 109, 101]⟩
def kindN : ByteArray := ⟨#[107, 105, 110, 100]⟩
def selN : ByteArray := ⟨#[115, 101, 108, 101, 99, 116, 105, 111, 110, 82, 97, 110, 103, 101]⟩
def childN : ByteArray := ⟨#[99, 104, 105, 108, 100, 114, 101, 110]⟩
def symT (nm : ByteArray) (k a b c d e f g h : Int) (L : VT) : VT := obT [nameN, kindN, VT.rangeN, selN, childN] [txT nm, nbT k, rangeT a b c d, rangeT e f g h, L]
namespace SY
def tree : SY → VT
  | .leaf => .leaf
  | .mk nm k a b c d e f g h n kids => symT nm k a b c d e f g h (lsF n fun j => (kids j).tree)
def n : SY → Nat | .leaf => 0 | .mk _ _ _ _ _ _ _ _ _ _ n _ => n
def kids : SY → Nat → SY | .leaf => fun _ => .leaf | .mk _ _ _ _ _ _ _ _ _ _ _ c => c
def cells (nm : ByteArray) (k a b c d e f g h : Int) (A : Option Addr) (n cap : Nat) : List Value := [.string nm, .int .i64 k, .int .i64 a, .int .i64 b, .int .i64 c, .int .i64 d, .int .i64 e, .int .i64 f, .int .i64 g, .int .i64 h, .slice A n cap]
end SY
/-- A symbol lies in memory, in blocks of S. -/
def SYV (w : World) (S : Nat → Prop) : SY → List Value → Prop
  | .leaf, _ => False
  | .mk nm k a b c d e f g h n kids, cs => ∃ A cap, cs = SY.cells nm k a b c d e f g h A n cap ∧ (I64 k ∧ I64 a ∧ I64 b ∧ I64 c ∧ I64 d ∧ I64 e ∧ I64 f ∧ I64 g ∧ I64 h) ∧
      (n = 0 ∨ ∃ bl off, A = some ⟨bl, off, none⟩ ∧ S bl ∧ ∀ j, j < n → ∃ ds : List Value, (∀ i v, ds[i]? = some v → w.cell? ⟨bl, off + j * 11 + i, none⟩ = some v) ∧ SYV w S (kids j) ds)
/-- a row of symbols -/
def SYS (w : World) (S : Nat → Prop) (A : Option Addr) (n : Nat) (kids : Nat → SY) : Prop :=
  n = 0 ∨ ∃ bl off, A = some ⟨bl, off, none⟩ ∧ S bl ∧ ∀ j, j < n → ∃ ds : List Value, (∀ i v, ds[i]? = some v → w.cell? ⟨bl, off + j * 11 + i, none⟩ = some v) ∧ SYV w S (kids j) ds
theorem SYV.on {w w' : World} {S : Nat → Prop} {t : SY} (hS : ∀ b, S b → b < w.heap.size) (hb : Below w.heap.size w w') : ∀ {cs : List Value}, SYV w S t cs → SYV w' S t cs := by
  induction t with
  | leaf => intro cs h; exact h
  | mk nm k a b c d e f g h n kids ih =>
    intro cs hh
    obtain ⟨A, cap, e0, hk, hv⟩ := hh
    refine ⟨A, cap, e0, hk, ?_⟩
    rcases hv with h0 | ⟨bl, off, e1, h1, hc⟩
    · exact .inl h0
    · refine .inr ⟨bl, off, e1, h1, fun j hj => ?_⟩
      obtain ⟨ds, h2, h3⟩ := hc j hj
      exact ⟨ds, fun i v hv => (hb.cell (p := ⟨bl, off + j * 11 + i, none⟩) (hS bl h1)).trans (h2 i v hv), ih j h3⟩
theorem SYS.on {w w' : World} {S : Nat → Prop} {A : Option Addr} {n : Nat} {kids : Nat → SY} (h : SYS w S A n kids) (hS : ∀ b, S b → b < w.heap.size) (hb : Below w.heap.size w w') : SYS w' S A n kids := by
  rcases h with h0 | ⟨bl, off, e1, h1, hc⟩
  · exact .inl h0
  · refine .inr ⟨bl, off, e1, h1, fun j hj => ?_⟩
    obtain ⟨ds, h2, h3⟩ := hc j hj
    exact ⟨ds, fun i v hv => (hb.cell (p := ⟨bl, off + j * 11 + i, none⟩) (hS bl h1)).trans (h2 i v hv), h3.on hS hb⟩
theorem SYS.mono {w : World} {S S' : Nat → Prop} {A : Option Addr} {n : Nat} {kids : Nat → SY} (h : SYS w S A n kids) (hS : ∀ b, S b → S' b) : SYS w S' A n kids := by
  have key : ∀ (t : SY) {cs : List Value}, SYV w S t cs → SYV w S' t cs := by
    intro t
    induction t with
    | leaf => intro cs h; exact h
    | mk nm k a b c d e f g h n kids ih =>
      intro cs hh
      obtain ⟨A, cap, e0, hk, hv⟩ := hh
      refine ⟨A, cap, e0, hk, ?_⟩
      rcases hv with h0 | ⟨bl, off, e1, h1, hc⟩
      · exact .inl h0
      · refine .inr ⟨bl, off, e1, hS bl h1, fun j hj => ?_⟩
        obtain ⟨ds, h2, h3⟩ := hc j hj
        exact ⟨ds, h2, ih j h3⟩
  rcases h with h0 | ⟨bl, off, e1, h1, hc⟩
  · exact .inl h0
  · refine .inr ⟨bl, off, e1, hS bl h1, fun j hj => ?_⟩
    obtain ⟨ds, h2, h3⟩ := hc j hj
    exact ⟨ds, h2, key _ h3⟩
/-- a row of symbols, kept from world to world -/
structure SYA (B : Nat) (A : Option Addr) (n : Nat) (kids : Nat → SY) (w : World) : Prop where
  le : B ≤ w.heap.size
  row : SYS w (fun b => b < B) A n kids
theorem SYA.on {B : Nat} {A : Option Addr} {n : Nat} {kids : Nat → SY} {w w' : World} (h : SYA B A n kids w) (hb : Below w.heap.size w w') : SYA B A n kids w' :=
  ⟨Nat.le_trans h.le hb.size, h.row.on (fun b hb => Nat.lt_of_lt_of_le hb h.le) hb⟩
theorem lsF_kid (n : Nat) (c : Nat → VT) (j : Nat) (h : j < n) : (c j).bulk < (lsF n c).bulk := VT.bulk_kid _ _ _ _ _ _ j h
theorem lsF_n (n : Nat) (c : Nat → VT) : n < (lsF n c).bulk := (VT.bulk_n 4 false .empty n c []).1
theorem symT_kid (nm : ByteArray) (k a b c d e f g h : Int) (L : VT) : L.bulk < (symT nm k a b c d e f g h L).bulk := VT.bulk_kid 5 false .empty 5 (fun j => [txT nm, nbT k, rangeT a b c d, rangeT e f g h, L].getD j .leaf) [nameN, kindN, VT.rangeN, selN, childN] 4 (by omega)
end Go.Proofs.YthndgekjccclnaaGreatDoor
namespace Go.Proofs.YthndgekjccclnaaGreatDoor
open Go.RowKit Val Num Go.Proofs.YthndgekjccclnaaGreatDoorW.PrintLast
set_option linter.unusedVariables false
set_option linter.unusedSimpArgs false

def tl_pSymbol_step (z : Zone) (nm : ByteArray) (x0 x1 x2 x3 x4 x5 x6 x7 x8 : Int) (A : Option Addr) (n cap : Nat) (C : Nat → VT) (w : World) : Tolds := [(0, 3, fun _ v => v = .pointer (some ⟨w.heap.size, 0, none⟩)), (1, 4, fun _ v => v = .string nm), (2, 5, VLV z (txT nm)), (3, 6, PRV z (⟨#[110, 97, 109, 101]⟩, (txT nm))), (4, 7, fun _ v => v = .pointer (some ⟨w.heap.size, 1, none⟩)), (5, 8, fun _ v => v = .int .i64 x0), (6, 9, VLV z (nbT x0)), (7, 10, PRV z (⟨#[107, 105, 110, 100]⟩, (nbT x0))), (8, 11, fun _ v => v = .pointer (some ⟨w.heap.size, 2, none⟩)), (9, 12, fun _ v => v = .agg #[.int .i64 x1, .int .i64 x2, .int .i64 x3, .int .i64 x4]), (10, 13, VLV z (rangeT x1 x2 x3 x4)), (11, 14, PRV z (⟨#[114, 97, 110, 103, 101]⟩, (rangeT x1 x2 x3 x4))), (12, 15, fun _ v => v = .pointer (some ⟨w.heap.size, 6, none⟩)), (13, 16, fun _ v => v = .agg #[.int .i64 x5, .int .i64 x6, .int .i64 x7, .int .i64 x8]), (14, 17, VLV z (rangeT x5 x6 x7 x8)), (15, 18, PRV z (⟨#[115, 101, 108, 101, 99, 116, 105, 111, 110, 82, 97, 110, 103, 101]⟩, (rangeT x5 x6 x7 x8))), (16, 19, fun _ v => v = .pointer (some ⟨w.heap.size, 10, none⟩)), (17, 20, fun _ v => v = .slice A n cap), (18, 21, VLV z (lsF n C)), (19, 22, PRV z (⟨#[99, 104, 105, 108, 100, 114, 101, 110]⟩, (lsF n C))), (20, 23, PSV z [(⟨#[110, 97, 109, 101]⟩, (txT nm)), (⟨#[107, 105, 110, 100]⟩, (nbT x0)), (⟨#[114, 97, 110, 103, 101]⟩, (rangeT x1 x2 x3 x4)), (⟨#[115, 101, 108, 101, 99, 116, 105, 111, 110, 82, 97, 110, 103, 101]⟩, (rangeT x5 x6 x7 x8)), (⟨#[99, 104, 105, 108, 100, 114, 101, 110]⟩, (lsF n C))]), (21, 24, VLV z (obT [⟨#[110, 97, 109, 101]⟩, ⟨#[107, 105, 110, 100]⟩, ⟨#[114, 97, 110, 103, 101]⟩, ⟨#[115, 101, 108, 101, 99, 116, 105, 111, 110, 82, 97, 110, 103, 101]⟩, ⟨#[99, 104, 105, 108, 100, 114, 101, 110]⟩] [(txT nm), (nbT x0), (rangeT x1 x2 x3 x4), (rangeT x5 x6 x7 x8), (lsF n C)]))]
theorem tl_pSymbol_step_ok (z : Zone) (nm : ByteArray) (x0 x1 x2 x3 x4 x5 x6 x7 x8 : Int) (A : Option Addr) (n cap : Nat) (C : Nat → VT) (w : World) : (tl_pSymbol_step z nm x0 x1 x2 x3 x4 x5 x6 x7 x8 A n cap C w).ok 22 = true := by kernel_rfl
theorem tl_pSymbol_step_up (z : Zone) (nm : ByteArray) (x0 x1 x2 x3 x4 x5 x6 x7 x8 : Int) (A : Option Addr) (n cap : Nat) (C : Nat → VT) (w : World) : (tl_pSymbol_step z nm x0 x1 x2 x3 x4 x5 x6 x7 x8 A n cap C w).up := (tup_cons (fun _ _ _ h _ => h) (tup_cons (fun _ _ _ h _ => h) (tup_cons (fun _ _ _ h hb => VLV.up h hb) (tup_cons (fun _ _ _ h hb => PRV.up h hb) (tup_cons (fun _ _ _ h _ => h) (tup_cons (fun _ _ _ h _ => h) (tup_cons (fun _ _ _ h hb => VLV.up h hb) (tup_cons (fun _ _ _ h hb => PRV.up h hb) (tup_cons (fun _ _ _ h _ => h) (tup_cons (fun _ _ _ h _ => h) (tup_cons (fun _ _ _ h hb => VLV.up h hb) (tup_cons (fun _ _ _ h hb => PRV.up h hb) (tup_cons (fun _ _ _ h _ => h) (tup_cons (fun _ _ _ h _ => h) (tup_cons (fun _ _ _ h hb => VLV.up h hb) (tup_cons (fun _ _ _ h hb => PRV.up h hb) (tup_cons (fun _ _ _ h _ => h) (tup_cons (fun _ _ _ h _ => h) (tup_cons (fun _ _ _ h hb => VLV.up h hb) (tup_cons (fun _ _ _ h hb => PRV.up h hb) (tup_cons (fun _ _ _ h hb => PSV.up h hb) (tup_cons (fun _ _ _ h hb => VLV.up h hb) tup_nil))))))))))))))))))))))
set_option maxRecDepth 100000 in
set_option maxHeartbeats 4000000 in
theorem pSymbol_step (nm : ByteArray) (x0 x1 x2 x3 x4 x5 x6 x7 x8 : Int) (A : Option Addr) (n cap : Nat) (C : Nat → VT) (w : World) (q : I64 x0 ∧ I64 x1 ∧ I64 x2 ∧ I64 x3 ∧ I64 x4 ∧ I64 x5 ∧ I64 x6 ∧ I64 x7 ∧ I64 x8) (hP : PTab w) (hs : ∀ W, Below w.heap.size w W → Calls Tryz.prog 40 #[.slice A n cap] W (Copied (lsF n C) W)) : Calls Tryz.prog 83 #[.agg #[.string nm, .int .i64 x0, .int .i64 x1, .int .i64 x2, .int .i64 x3, .int .i64 x4, .int .i64 x5, .int .i64 x6, .int .i64 x7, .int .i64 x8, .slice A n cap]] w (Copied (symT nm x0 x1 x2 x3 x4 x5 x6 x7 x8 (lsF n C)) w) := by
  have Hq := Lib.hid q
  have HhP := Lib.hid hP
  have Hhs := Lib.hid hs
  clear q hP hs
  go_enter Tryz.func83, Tryz.ntmps83
  go_wp2_with fail
  have HB : Hid (Below w.heap.size w ((w.alloc (.cells #[.string nm, .int .i64 x0, .int .i64 x1, .int .i64 x2, .int .i64 x3, .int .i64 x4, .int .i64 x5, .int .i64 x6, .int .i64 x7, .int .i64 x8, .slice A n cap] 114)).alloc (.cells #[.int .i64 0, .bool false, .string ⟨#[]⟩, .slice none 0 0, .slice none 0 0] 30))) := Lib.hid (al2_below w _ _)
  have HX : Hid (BK ((w.alloc (.cells #[.string nm, .int .i64 x0, .int .i64 x1, .int .i64 x2, .int .i64 x3, .int .i64 x4, .int .i64 x5, .int .i64 x6, .int .i64 x7, .int .i64 x8, .slice A n cap] 114)).alloc (.cells #[.int .i64 0, .bool false, .string ⟨#[]⟩, .slice none 0 0, .slice none 0 0] 30)) w.heap.size 114 #[.string nm, .int .i64 x0, .int .i64 x1, .int .i64 x2, .int .i64 x3, .int .i64 x4, .int .i64 x5, .int .i64 x6, .int .i64 x7, .int .i64 x8, .slice A n cap]) := Lib.hid (al2_0 w _ _)
  have HR : Hid (BX ((w.alloc (.cells #[.string nm, .int .i64 x0, .int .i64 x1, .int .i64 x2, .int .i64 x3, .int .i64 x4, .int .i64 x5, .int .i64 x6, .int .i64 x7, .int .i64 x8, .slice A n cap] 114)).alloc (.cells #[.int .i64 0, .bool false, .string ⟨#[]⟩, .slice none 0 0, .slice none 0 0] 30)) (w.heap.size + 1) (.int .i64 0) (.bool false) (.string ⟨#[]⟩) (.slice none 0 0) (.slice none 0 0)) := Lib.hid (al2_1 w _ _)
  replace HhP := Lib.hid (HhP.out.on HB.out)
  generalize ((w.alloc (.cells #[.string nm, .int .i64 x0, .int .i64 x1, .int .i64 x2, .int .i64 x3, .int .i64 x4, .int .i64 x5, .int .i64 x6, .int .i64 x7, .int .i64 x8, .slice A n cap] 114)).alloc (.cells #[.int .i64 0, .bool false, .string ⟨#[]⟩, .slice none 0 0, .slice none 0 0] 30)) = w1 at *
  refine start_ (n := 23) (S := fun w' => True) (ds := []) #[false, false, false, false, false, false, false, false, false, false, false, false, false, false, false, false, false, false, false, false, false, false, false] (by kernel_rfl) rfl rfl trivial (fun hHeld => ?_)
  clear hHeld
  have hb : Below w1.heap.size w1 w1.drew := (Below.refl _ _).drew
  replace HB := Lib.hid (HB.out.trans (hb.mono HB.out.size))
  replace HR := Lib.hid (HR.out.on hb)
  replace HX := Lib.hid (HX.out.on hb)
  replace HhP := Lib.hid (HhP.out.on hb)
  clear hb
  generalize w1.drew = c at *
  refine inv_ (B := [0, 1, 3, 7, 0, 16, 55, 119, 0, 256, 887, 1911, 0, 4096, 14199, 30583, 0, 65536, 227191, 489335, 1048575, 2097151, 4194303]) [0, 1, 2, 3, 4, 5, 6, 7, 8, 9, 10, 11, 12, 13, 14, 15, 16, 17, 18, 19, 20, 21, 22] (ToldI _ (tl_pSymbol_step (zNew c.heap.size) nm x0 x1 x2 x3 x4 x5 x6 x7 x8 A n cap C w) 22 c _) rfl (by kernel_rfl) (by kernel_rfl) (by kernel_rfl) told_begin ?_ (told_end (by kernel_rfl))
  refine steps_cons (told_step 0 (tl_pSymbol_step_ok (zNew c.heap.size) nm x0 x1 x2 x3 x4 x5 x6 x7 x8 A n cap C w) (tl_pSymbol_step_up (zNew c.heap.size) nm x0 x1 x2 x3 x4 x5 x6 x7 x8 A n cap C w) rfl (by kernel_rfl) ?_) ?_
  · intro b V a w' ha hB hF hon
    refine ⟨_, rfl, rfl, fun K hK => ?_⟩
    have e1 : a.tmps[1]? = some (.pointer (some ⟨w.heap.size, 0, none⟩)) := by rw [ha]; exact (putSel_off (by rfl)).trans rfl
    refine value_ (w1 := w') (v := .pointer (some ⟨w.heap.size, 0, none⟩)) rfl rfl ?_ (hK _ _ (Below.refl _ _) rfl)
    clear ha hF hon hK K
    go_simp
    all_goals first | rfl | (constructor <;> rfl)
  refine steps_cons (told_step 1 (tl_pSymbol_step_ok (zNew c.heap.size) nm x0 x1 x2 x3 x4 x5 x6 x7 x8 A n cap C w) (tl_pSymbol_step_up (zNew c.heap.size) nm x0 x1 x2 x3 x4 x5 x6 x7 x8 A n cap C w) rfl (by kernel_rfl) ?_) ?_
  · intro b V a w' ha hB hF hon
    refine ⟨_, rfl, rfl, fun K hK => ?_⟩
    have e3 := told_get 0 (tl_pSymbol_step_ok (zNew c.heap.size) nm x0 x1 x2 x3 x4 x5 x6 x7 x8 A n cap C w) rfl ha (hon 0 (by kernel_rfl)) (by kernel_rfl)
    have F3 : V 0 = .pointer (some ⟨w.heap.size, 0, none⟩) := told_fact 0 hF rfl (hon 0 (by kernel_rfl))
    rw [F3] at e3
    have hg := HX.out.on hB
    have y0 := hg.c 0 rfl
    clear hg
    refine value_ (w1 := w') (v := .string nm) rfl rfl ?_ (hK _ _ (Below.refl _ _) rfl)
    clear ha hF hon hK K
    go_simp
    all_goals first | rfl | (constructor <;> rfl)
  refine steps_cons (told_step 2 (tl_pSymbol_step_ok (zNew c.heap.size) nm x0 x1 x2 x3 x4 x5 x6 x7 x8 A n cap C w) (tl_pSymbol_step_up (zNew c.heap.size) nm x0 x1 x2 x3 x4 x5 x6 x7 x8 A n cap C w) rfl (by kernel_rfl) ?_) ?_
  · intro b V a w' ha hB hF hon
    refine ⟨_, rfl, rfl, fun K hK => ?_⟩
    have e4 := told_get 1 (tl_pSymbol_step_ok (zNew c.heap.size) nm x0 x1 x2 x3 x4 x5 x6 x7 x8 A n cap C w) rfl ha (hon 1 (by kernel_rfl)) (by kernel_rfl)
    have F4 : V 1 = .string nm := told_fact 1 hF rfl (hon 1 (by kernel_rfl))
    rw [F4] at e4
    refine goes_ Tryz.func90 (by kernel_rfl) rfl #[.string nm] rfl rfl rfl (by simp only [List.map_toArray, List.map_cons, List.map_nil, Act.eval, Array.getD_eq_getD_getElem?, e4, Option.getD_some]) ?_
    refine ((vText nm w').mono (fun _ _ h => h.mk hB.size)).mono ?_
    rintro e w'' ⟨v, rfl, hv, hb⟩
    exact ⟨v, rfl, hK v w'' hb hv⟩
  refine steps_cons (told_step 3 (tl_pSymbol_step_ok (zNew c.heap.size) nm x0 x1 x2 x3 x4 x5 x6 x7 x8 A n cap C w) (tl_pSymbol_step_up (zNew c.heap.size) nm x0 x1 x2 x3 x4 x5 x6 x7 x8 A n cap C w) rfl (by kernel_rfl) ?_) ?_
  · intro b V a w' ha hB hF hon
    refine ⟨_, rfl, rfl, fun K hK => ?_⟩
    have e5 := told_get 2 (tl_pSymbol_step_ok (zNew c.heap.size) nm x0 x1 x2 x3 x4 x5 x6 x7 x8 A n cap C w) rfl ha (hon 2 (by kernel_rfl)) (by kernel_rfl)
    have F5 := told_fact 2 hF rfl (hon 2 (by kernel_rfl))
    obtain ⟨k_5, i_5, x_5, A_5, n_5, c_5, B_5, m_5, d_5, hv5⟩ := VAL.shape F5
    rw [hv5] at e5 F5
    refine value_ (w1 := w') (v := .agg #[.string ⟨#[110, 97, 109, 101]⟩, .int .i64 k_5, .bool i_5, .string x_5, .slice A_5 n_5 c_5, .slice B_5 m_5 d_5]) rfl rfl ?_ (hK _ _ (Below.refl _ _) ⟨_, _, _, _, _, rfl, F5⟩)
    clear ha hF hon hK K
    go_simp
    all_goals first | rfl | (constructor <;> rfl)
  refine steps_cons (told_step 4 (tl_pSymbol_step_ok (zNew c.heap.size) nm x0 x1 x2 x3 x4 x5 x6 x7 x8 A n cap C w) (tl_pSymbol_step_up (zNew c.heap.size) nm x0 x1 x2 x3 x4 x5 x6 x7 x8 A n cap C w) rfl (by kernel_rfl) ?_) ?_
  · intro b V a w' ha hB hF hon
    refine ⟨_, rfl, rfl, fun K hK => ?_⟩
    have e1 : a.tmps[1]? = some (.pointer (some ⟨w.heap.size, 0, none⟩)) := by rw [ha]; exact (putSel_off (by rfl)).trans rfl
    refine value_ (w1 := w') (v := .pointer (some ⟨w.heap.size, 1, none⟩)) rfl rfl ?_ (hK _ _ (Below.refl _ _) rfl)
    clear ha hF hon hK K
    go_simp
    all_goals first | rfl | (constructor <;> rfl)
  refine steps_cons (told_step 5 (tl_pSymbol_step_ok (zNew c.heap.size) nm x0 x1 x2 x3 x4 x5 x6 x7 x8 A n cap C w) (tl_pSymbol_step_up (zNew c.heap.size) nm x0 x1 x2 x3 x4 x5 x6 x7 x8 A n cap C w) rfl (by kernel_rfl) ?_) ?_
  · intro b V a w' ha hB hF hon
    refine ⟨_, rfl, rfl, fun K hK => ?_⟩
    have e7 := told_get 4 (tl_pSymbol_step_ok (zNew c.heap.size) nm x0 x1 x2 x3 x4 x5 x6 x7 x8 A n cap C w) rfl ha (hon 4 (by kernel_rfl)) (by kernel_rfl)
    have F7 : V 4 = .pointer (some ⟨w.heap.size, 1, none⟩) := told_fact 4 hF rfl (hon 4 (by kernel_rfl))
    rw [F7] at e7
    have hg := HX.out.on hB
    have y1 := hg.c 1 rfl
    clear hg
    refine value_ (w1 := w') (v := .int .i64 x0) rfl rfl ?_ (hK _ _ (Below.refl _ _) rfl)
    clear ha hF hon hK K
    go_simp
    all_goals first | rfl | (constructor <;> rfl)
  refine steps_cons (told_step 6 (tl_pSymbol_step_ok (zNew c.heap.size) nm x0 x1 x2 x3 x4 x5 x6 x7 x8 A n cap C w) (tl_pSymbol_step_up (zNew c.heap.size) nm x0 x1 x2 x3 x4 x5 x6 x7 x8 A n cap C w) rfl (by kernel_rfl) ?_) ?_
  · intro b V a w' ha hB hF hon
    refine ⟨_, rfl, rfl, fun K hK => ?_⟩
    have e8 := told_get 5 (tl_pSymbol_step_ok (zNew c.heap.size) nm x0 x1 x2 x3 x4 x5 x6 x7 x8 A n cap C w) rfl ha (hon 5 (by kernel_rfl)) (by kernel_rfl)
    have F8 : V 5 = .int .i64 x0 := told_fact 5 hF rfl (hon 5 (by kernel_rfl))
    rw [F8] at e8
    refine goes_ Tryz.func89 (by kernel_rfl) rfl #[.int .i64 x0] rfl rfl rfl (by simp only [List.map_toArray, List.map_cons, List.map_nil, Act.eval, Array.getD_eq_getD_getElem?, e8, Option.getD_some]) ?_
    refine ((vNumber x0 w' Hq.out.1 (HhP.out.on hB)).mono (fun _ _ h => h.mk hB.size)).mono ?_
    rintro e w'' ⟨v, rfl, hv, hb⟩
    exact ⟨v, rfl, hK v w'' hb hv⟩
  refine steps_cons (told_step 7 (tl_pSymbol_step_ok (zNew c.heap.size) nm x0 x1 x2 x3 x4 x5 x6 x7 x8 A n cap C w) (tl_pSymbol_step_up (zNew c.heap.size) nm x0 x1 x2 x3 x4 x5 x6 x7 x8 A n cap C w) rfl (by kernel_rfl) ?_) ?_
  · intro b V a w' ha hB hF hon
    refine ⟨_, rfl, rfl, fun K hK => ?_⟩
    have e9 := told_get 6 (tl_pSymbol_step_ok (zNew c.heap.size) nm x0 x1 x2 x3 x4 x5 x6 x7 x8 A n cap C w) rfl ha (hon 6 (by kernel_rfl)) (by kernel_rfl)
    have F9 := told_fact 6 hF rfl (hon 6 (by kernel_rfl))
    obtain ⟨k_9, i_9, x_9, A_9, n_9, c_9, B_9, m_9, d_9, hv9⟩ := VAL.shape F9
    rw [hv9] at e9 F9
    refine value_ (w1 := w') (v := .agg #[.string ⟨#[107, 105, 110, 100]⟩, .int .i64 k_9, .bool i_9, .string x_9, .slice A_9 n_9 c_9, .slice B_9 m_9 d_9]) rfl rfl ?_ (hK _ _ (Below.refl _ _) ⟨_, _, _, _, _, rfl, F9⟩)
    clear ha hF hon hK K
    go_simp
    all_goals first | rfl | (constructor <;> rfl)
  refine steps_cons (told_step 8 (tl_pSymbol_step_ok (zNew c.heap.size) nm x0 x1 x2 x3 x4 x5 x6 x7 x8 A n cap C w) (tl_pSymbol_step_up (zNew c.heap.size) nm x0 x1 x2 x3 x4 x5 x6 x7 x8 A n cap C w) rfl (by kernel_rfl) ?_) ?_
  · intro b V a w' ha hB hF hon
    refine ⟨_, rfl, rfl, fun K hK => ?_⟩
    have e1 : a.tmps[1]? = some (.pointer (some ⟨w.heap.size, 0, none⟩)) := by rw [ha]; exact (putSel_off (by rfl)).trans rfl
    refine value_ (w1 := w') (v := .pointer (some ⟨w.heap.size, 2, none⟩)) rfl rfl ?_ (hK _ _ (Below.refl _ _) rfl)
    clear ha hF hon hK K
    go_simp
    all_goals first | rfl | (constructor <;> rfl)
  refine steps_cons (told_step 9 (tl_pSymbol_step_ok (zNew c.heap.size) nm x0 x1 x2 x3 x4 x5 x6 x7 x8 A n cap C w) (tl_pSymbol_step_up (zNew c.heap.size) nm x0 x1 x2 x3 x4 x5 x6 x7 x8 A n cap C w) rfl (by kernel_rfl) ?_) ?_
  · intro b V a w' ha hB hF hon
    refine ⟨_, rfl, rfl, fun K hK => ?_⟩
    have e11 := told_get 8 (tl_pSymbol_step_ok (zNew c.heap.size) nm x0 x1 x2 x3 x4 x5 x6 x7 x8 A n cap C w) rfl ha (hon 8 (by kernel_rfl)) (by kernel_rfl)
    have F11 : V 8 = .pointer (some ⟨w.heap.size, 2, none⟩) := told_fact 8 hF rfl (hon 8 (by kernel_rfl))
    rw [F11] at e11
    have hg := HX.out.on hB
    have y2 := hg.c 2 rfl
    have y3 := hg.c 3 rfl
    have y4 := hg.c 4 rfl
    have y5 := hg.c 5 rfl
    clear hg
    refine value_ (w1 := w') (v := .agg #[.int .i64 x1, .int .i64 x2, .int .i64 x3, .int .i64 x4]) rfl rfl ?_ (hK _ _ (Below.refl _ _) rfl)
    clear ha hF hon hK K
    go_simp
    all_goals first | rfl | (constructor <;> rfl)
  refine steps_cons (told_step 10 (tl_pSymbol_step_ok (zNew c.heap.size) nm x0 x1 x2 x3 x4 x5 x6 x7 x8 A n cap C w) (tl_pSymbol_step_up (zNew c.heap.size) nm x0 x1 x2 x3 x4 x5 x6 x7 x8 A n cap C w) rfl (by kernel_rfl) ?_) ?_
  · intro b V a w' ha hB hF hon
    refine ⟨_, rfl, rfl, fun K hK => ?_⟩
    have e12 := told_get 9 (tl_pSymbol_step_ok (zNew c.heap.size) nm x0 x1 x2 x3 x4 x5 x6 x7 x8 A n cap C w) rfl ha (hon 9 (by kernel_rfl)) (by kernel_rfl)
    have F12 : V 9 = .agg #[.int .i64 x1, .int .i64 x2, .int .i64 x3, .int .i64 x4] := told_fact 9 hF rfl (hon 9 (by kernel_rfl))
    rw [F12] at e12
    refine goes_ Tryz.func37 (by kernel_rfl) rfl #[.agg #[.int .i64 x1, .int .i64 x2, .int .i64 x3, .int .i64 x4]] rfl rfl rfl (by simp only [List.map_toArray, List.map_cons, List.map_nil, Act.eval, Array.getD_eq_getD_getElem?, e12, Option.getD_some]) ?_
    refine ((pRange x1 x2 x3 x4 w' Hq.out.2.1 Hq.out.2.2.1 Hq.out.2.2.2.1 Hq.out.2.2.2.2.1 (HhP.out.on hB)).mono (fun _ _ h => h.mk hB.size)).mono ?_
    rintro e w'' ⟨v, rfl, hv, hb⟩
    exact ⟨v, rfl, hK v w'' hb hv⟩
  refine steps_cons (told_step 11 (tl_pSymbol_step_ok (zNew c.heap.size) nm x0 x1 x2 x3 x4 x5 x6 x7 x8 A n cap C w) (tl_pSymbol_step_up (zNew c.heap.size) nm x0 x1 x2 x3 x4 x5 x6 x7 x8 A n cap C w) rfl (by kernel_rfl) ?_) ?_
  · intro b V a w' ha hB hF hon
    refine ⟨_, rfl, rfl, fun K hK => ?_⟩
    have e13 := told_get 10 (tl_pSymbol_step_ok (zNew c.heap.size) nm x0 x1 x2 x3 x4 x5 x6 x7 x8 A n cap C w) rfl ha (hon 10 (by kernel_rfl)) (by kernel_rfl)
    have F13 := told_fact 10 hF rfl (hon 10 (by kernel_rfl))
    obtain ⟨k_13, i_13, x_13, A_13, n_13, c_13, B_13, m_13, d_13, hv13⟩ := VAL.shape F13
    rw [hv13] at e13 F13
    refine value_ (w1 := w') (v := .agg #[.string ⟨#[114, 97, 110, 103, 101]⟩, .int .i64 k_13, .bool i_13, .string x_13, .slice A_13 n_13 c_13, .slice B_13 m_13 d_13]) rfl rfl ?_ (hK _ _ (Below.refl _ _) ⟨_, _, _, _, _, rfl, F13⟩)
    clear ha hF hon hK K
    go_simp
    all_goals first | rfl | (constructor <;> rfl)
  refine steps_cons (told_step 12 (tl_pSymbol_step_ok (zNew c.heap.size) nm x0 x1 x2 x3 x4 x5 x6 x7 x8 A n cap C w) (tl_pSymbol_step_up (zNew c.heap.size) nm x0 x1 x2 x3 x4 x5 x6 x7 x8 A n cap C w) rfl (by kernel_rfl) ?_) ?_
  · intro b V a w' ha hB hF hon
    refine ⟨_, rfl, rfl, fun K hK => ?_⟩
    have e1 : a.tmps[1]? = some (.pointer (some ⟨w.heap.size, 0, none⟩)) := by rw [ha]; exact (putSel_off (by rfl)).trans rfl
    refine value_ (w1 := w') (v := .pointer (some ⟨w.heap.size, 6, none⟩)) rfl rfl ?_ (hK _ _ (Below.refl _ _) rfl)
    clear ha hF hon hK K
    go_simp
    all_goals first | rfl | (constructor <;> rfl)
  refine steps_cons (told_step 13 (tl_pSymbol_step_ok (zNew c.heap.size) nm x0 x1 x2 x3 x4 x5 x6 x7 x8 A n cap C w) (tl_pSymbol_step_up (zNew c.heap.size) nm x0 x1 x2 x3 x4 x5 x6 x7 x8 A n cap C w) rfl (by kernel_rfl) ?_) ?_
  · intro b V a w' ha hB hF hon
    refine ⟨_, rfl, rfl, fun K hK => ?_⟩
    have e15 := told_get 12 (tl_pSymbol_step_ok (zNew c.heap.size) nm x0 x1 x2 x3 x4 x5 x6 x7 x8 A n cap C w) rfl ha (hon 12 (by kernel_rfl)) (by kernel_rfl)
    have F15 : V 12 = .pointer (some ⟨w.heap.size, 6, none⟩) := told_fact 12 hF rfl (hon 12 (by kernel_rfl))
    rw [F15] at e15
    have hg := HX.out.on hB
    have y6 := hg.c 6 rfl
    have y7 := hg.c 7 rfl
    have y8 := hg.c 8 rfl
    have y9 := hg.c 9 rfl
    clear hg
    refine value_ (w1 := w') (v := .agg #[.int .i64 x5, .int .i64 x6, .int .i64 x7, .int .i64 x8]) rfl rfl ?_ (hK _ _ (Below.refl _ _) rfl)
    clear ha hF hon hK K
    go_simp
    all_goals first | rfl | (constructor <;> rfl)
  refine steps_cons (told_step 14 (tl_pSymbol_step_ok (zNew c.heap.size) nm x0 x1 x2 x3 x4 x5 x6 x7 x8 A n cap C w) (tl_pSymbol_step_up (zNew c.heap.size) nm x0 x1 x2 x3 x4 x5 x6 x7 x8 A n cap C w) rfl (by kernel_rfl) ?_) ?_
  · intro b V a w' ha hB hF hon
    refine ⟨_, rfl, rfl, fun K hK => ?_⟩
    have e16 := told_get 13 (tl_pSymbol_step_ok (zNew c.heap.size) nm x0 x1 x2 x3 x4 x5 x6 x7 x8 A n cap C w) rfl ha (hon 13 (by kernel_rfl)) (by kernel_rfl)
    have F16 : V 13 = .agg #[.int .i64 x5, .int .i64 x6, .int .i64 x7, .int .i64 x8] := told_fact 13 hF rfl (hon 13 (by kernel_rfl))
    rw [F16] at e16
    refine goes_ Tryz.func37 (by kernel_rfl) rfl #[.agg #[.int .i64 x5, .int .i64 x6, .int .i64 x7, .int .i64 x8]] rfl rfl rfl (by simp only [List.map_toArray, List.map_cons, List.map_nil, Act.eval, Array.getD_eq_getD_getElem?, e16, Option.getD_some]) ?_
    refine ((pRange x5 x6 x7 x8 w' Hq.out.2.2.2.2.2.1 Hq.out.2.2.2.2.2.2.1 Hq.out.2.2.2.2.2.2.2.1 Hq.out.2.2.2.2.2.2.2.2 (HhP.out.on hB)).mono (fun _ _ h => h.mk hB.size)).mono ?_
    rintro e w'' ⟨v, rfl, hv, hb⟩
    exact ⟨v, rfl, hK v w'' hb hv⟩
  refine steps_cons (told_step 15 (tl_pSymbol_step_ok (zNew c.heap.size) nm x0 x1 x2 x3 x4 x5 x6 x7 x8 A n cap C w) (tl_pSymbol_step_up (zNew c.heap.size) nm x0 x1 x2 x3 x4 x5 x6 x7 x8 A n cap C w) rfl (by kernel_rfl) ?_) ?_
  · intro b V a w' ha hB hF hon
    refine ⟨_, rfl, rfl, fun K hK => ?_⟩
    have e17 := told_get 14 (tl_pSymbol_step_ok (zNew c.heap.size) nm x0 x1 x2 x3 x4 x5 x6 x7 x8 A n cap C w) rfl ha (hon 14 (by kernel_rfl)) (by kernel_rfl)
    have F17 := told_fact 14 hF rfl (hon 14 (by kernel_rfl))
    obtain ⟨k_17, i_17, x_17, A_17, n_17, c_17, B_17, m_17, d_17, hv17⟩ := VAL.shape F17
    rw [hv17] at e17 F17
    refine value_ (w1 := w') (v := .agg #[.string ⟨#[115, 101, 108, 101, 99, 116, 105, 111, 110, 82, 97, 110, 103, 101]⟩, .int .i64 k_17, .bool i_17, .string x_17, .slice A_17 n_17 c_17, .slice B_17 m_17 d_17]) rfl rfl ?_ (hK _ _ (Below.refl _ _) ⟨_, _, _, _, _, rfl, F17⟩)
    clear ha hF hon hK K
    go_simp
    all_goals first | rfl | (constructor <;> rfl)
  refine steps_cons (told_step 16 (tl_pSymbol_step_ok (zNew c.heap.size) nm x0 x1 x2 x3 x4 x5 x6 x7 x8 A n cap C w) (tl_pSymbol_step_up (zNew c.heap.size) nm x0 x1 x2 x3 x4 x5 x6 x7 x8 A n cap C w) rfl (by kernel_rfl) ?_) ?_
  · intro b V a w' ha hB hF hon
    refine ⟨_, rfl, rfl, fun K hK => ?_⟩
    have e1 : a.tmps[1]? = some (.pointer (some ⟨w.heap.size, 0, none⟩)) := by rw [ha]; exact (putSel_off (by rfl)).trans rfl
    refine value_ (w1 := w') (v := .pointer (some ⟨w.heap.size, 10, none⟩)) rfl rfl ?_ (hK _ _ (Below.refl _ _) rfl)
    clear ha hF hon hK K
    go_simp
    all_goals first | rfl | (constructor <;> rfl)
  refine steps_cons (told_step 17 (tl_pSymbol_step_ok (zNew c.heap.size) nm x0 x1 x2 x3 x4 x5 x6 x7 x8 A n cap C w) (tl_pSymbol_step_up (zNew c.heap.size) nm x0 x1 x2 x3 x4 x5 x6 x7 x8 A n cap C w) rfl (by kernel_rfl) ?_) ?_
  · intro b V a w' ha hB hF hon
    refine ⟨_, rfl, rfl, fun K hK => ?_⟩
    have e19 := told_get 16 (tl_pSymbol_step_ok (zNew c.heap.size) nm x0 x1 x2 x3 x4 x5 x6 x7 x8 A n cap C w) rfl ha (hon 16 (by kernel_rfl)) (by kernel_rfl)
    have F19 : V 16 = .pointer (some ⟨w.heap.size, 10, none⟩) := told_fact 16 hF rfl (hon 16 (by kernel_rfl))
    rw [F19] at e19
    have hg := HX.out.on hB
    have y10 := hg.c 10 rfl
    clear hg
    refine value_ (w1 := w') (v := .slice A n cap) rfl rfl ?_ (hK _ _ (Below.refl _ _) rfl)
    clear ha hF hon hK K
    go_simp
    all_goals first | rfl | (constructor <;> rfl)
  refine steps_cons (told_step 18 (tl_pSymbol_step_ok (zNew c.heap.size) nm x0 x1 x2 x3 x4 x5 x6 x7 x8 A n cap C w) (tl_pSymbol_step_up (zNew c.heap.size) nm x0 x1 x2 x3 x4 x5 x6 x7 x8 A n cap C w) rfl (by kernel_rfl) ?_) ?_
  · intro b V a w' ha hB hF hon
    refine ⟨_, rfl, rfl, fun K hK => ?_⟩
    have e20 := told_get 17 (tl_pSymbol_step_ok (zNew c.heap.size) nm x0 x1 x2 x3 x4 x5 x6 x7 x8 A n cap C w) rfl ha (hon 17 (by kernel_rfl)) (by kernel_rfl)
    have F20 : V 17 = .slice A n cap := told_fact 17 hF rfl (hon 17 (by kernel_rfl))
    rw [F20] at e20
    refine goes_ Tryz.func40 (by kernel_rfl) rfl #[.slice A n cap] rfl rfl rfl (by simp only [List.map_toArray, List.map_cons, List.map_nil, Act.eval, Array.getD_eq_getD_getElem?, e20, Option.getD_some]) ?_
    refine ((Hhs.out w' (HB.out.trans (hB.mono HB.out.size))).mono (fun _ _ h => h.mk hB.size)).mono ?_
    rintro e w'' ⟨v, rfl, hv, hb⟩
    exact ⟨v, rfl, hK v w'' hb hv⟩
  refine steps_cons (told_step 19 (tl_pSymbol_step_ok (zNew c.heap.size) nm x0 x1 x2 x3 x4 x5 x6 x7 x8 A n cap C w) (tl_pSymbol_step_up (zNew c.heap.size) nm x0 x1 x2 x3 x4 x5 x6 x7 x8 A n cap C w) rfl (by kernel_rfl) ?_) ?_
  · intro b V a w' ha hB hF hon
    refine ⟨_, rfl, rfl, fun K hK => ?_⟩
    have e21 := told_get 18 (tl_pSymbol_step_ok (zNew c.heap.size) nm x0 x1 x2 x3 x4 x5 x6 x7 x8 A n cap C w) rfl ha (hon 18 (by kernel_rfl)) (by kernel_rfl)
    have F21 := told_fact 18 hF rfl (hon 18 (by kernel_rfl))
    obtain ⟨k_21, i_21, x_21, A_21, n_21, c_21, B_21, m_21, d_21, hv21⟩ := VAL.shape F21
    rw [hv21] at e21 F21
    refine value_ (w1 := w') (v := .agg #[.string ⟨#[99, 104, 105, 108, 100, 114, 101, 110]⟩, .int .i64 k_21, .bool i_21, .string x_21, .slice A_21 n_21 c_21, .slice B_21 m_21 d_21]) rfl rfl ?_ (hK _ _ (Below.refl _ _) ⟨_, _, _, _, _, rfl, F21⟩)
    clear ha hF hon hK K
    go_simp
    all_goals first | rfl | (constructor <;> rfl)
  refine steps_cons (told_step 20 (tl_pSymbol_step_ok (zNew c.heap.size) nm x0 x1 x2 x3 x4 x5 x6 x7 x8 A n cap C w) (tl_pSymbol_step_up (zNew c.heap.size) nm x0 x1 x2 x3 x4 x5 x6 x7 x8 A n cap C w) rfl (by kernel_rfl) ?_) ?_
  · intro b V a w' ha hB hF hon
    refine ⟨_, rfl, rfl, fun K hK => ?_⟩
    have e6 := told_get 3 (tl_pSymbol_step_ok (zNew c.heap.size) nm x0 x1 x2 x3 x4 x5 x6 x7 x8 A n cap C w) rfl ha (hon 3 (by kernel_rfl)) (by kernel_rfl)
    have F6 := told_fact 3 hF rfl (hon 3 (by kernel_rfl))
    obtain ⟨p0, p1, p2, p3, p4, hv6, G6⟩ := F6
    obtain ⟨k_6, i_6, x_6, A_6, n_6, c_6, B_6, m_6, d_6, hw6⟩ := VAL.shape G6
    injection hw6 with hw6
    injection hw6 with hw6
    injection hw6 with z0 hw6; injection hw6 with z1 hw6; injection hw6 with z2 hw6; injection hw6 with z3 hw6; injection hw6 with z4 hw6
    subst z0; subst z1; subst z2; subst z3; subst z4
    rw [hv6] at e6
    have e10 := told_get 7 (tl_pSymbol_step_ok (zNew c.heap.size) nm x0 x1 x2 x3 x4 x5 x6 x7 x8 A n cap C w) rfl ha (hon 7 (by kernel_rfl)) (by kernel_rfl)
    have F10 := told_fact 7 hF rfl (hon 7 (by kernel_rfl))
    obtain ⟨p0, p1, p2, p3, p4, hv10, G10⟩ := F10
    obtain ⟨k_10, i_10, x_10, A_10, n_10, c_10, B_10, m_10, d_10, hw10⟩ := VAL.shape G10
    injection hw10 with hw10
    injection hw10 with hw10
    injection hw10 with z0 hw10; injection hw10 with z1 hw10; injection hw10 with z2 hw10; injection hw10 with z3 hw10; injection hw10 with z4 hw10
    subst z0; subst z1; subst z2; subst z3; subst z4
    rw [hv10] at e10
    have e14 := told_get 11 (tl_pSymbol_step_ok (zNew c.heap.size) nm x0 x1 x2 x3 x4 x5 x6 x7 x8 A n cap C w) rfl ha (hon 11 (by kernel_rfl)) (by kernel_rfl)
    have F14 := told_fact 11 hF rfl (hon 11 (by kernel_rfl))
    obtain ⟨p0, p1, p2, p3, p4, hv14, G14⟩ := F14
    obtain ⟨k_14, i_14, x_14, A_14, n_14, c_14, B_14, m_14, d_14, hw14⟩ := VAL.shape G14
    injection hw14 with hw14
    injection hw14 with hw14
    injection hw14 with z0 hw14; injection hw14 with z1 hw14; injection hw14 with z2 hw14; injection hw14 with z3 hw14; injection hw14 with z4 hw14
    subst z0; subst z1; subst z2; subst z3; subst z4
    rw [hv14] at e14
    have e18 := told_get 15 (tl_pSymbol_step_ok (zNew c.heap.size) nm x0 x1 x2 x3 x4 x5 x6 x7 x8 A n cap C w) rfl ha (hon 15 (by kernel_rfl)) (by kernel_rfl)
    have F18 := told_fact 15 hF rfl (hon 15 (by kernel_rfl))
    obtain ⟨p0, p1, p2, p3, p4, hv18, G18⟩ := F18
    obtain ⟨k_18, i_18, x_18, A_18, n_18, c_18, B_18, m_18, d_18, hw18⟩ := VAL.shape G18
    injection hw18 with hw18
    injection hw18 with hw18
    injection hw18 with z0 hw18; injection hw18 with z1 hw18; injection hw18 with z2 hw18; injection hw18 with z3 hw18; injection hw18 with z4 hw18
    subst z0; subst z1; subst z2; subst z3; subst z4
    rw [hv18] at e18
    have e22 := told_get 19 (tl_pSymbol_step_ok (zNew c.heap.size) nm x0 x1 x2 x3 x4 x5 x6 x7 x8 A n cap C w) rfl ha (hon 19 (by kernel_rfl)) (by kernel_rfl)
    have F22 := told_fact 19 hF rfl (hon 19 (by kernel_rfl))
    obtain ⟨p0, p1, p2, p3, p4, hv22, G22⟩ := F22
    obtain ⟨k_22, i_22, x_22, A_22, n_22, c_22, B_22, m_22, d_22, hw22⟩ := VAL.shape G22
    injection hw22 with hw22
    injection hw22 with hw22
    injection hw22 with z0 hw22; injection hw22 with z1 hw22; injection hw22 with z2 hw22; injection hw22 with z3 hw22; injection hw22 with z4 hw22
    subst z0; subst z1; subst z2; subst z3; subst z4
    rw [hv22] at e22
    refine value_ (w1 := w'.alloc (.cells #[.string ⟨#[110, 97, 109, 101]⟩, .int .i64 k_6, .bool i_6, .string x_6, .slice A_6 n_6 c_6, .slice B_6 m_6 d_6, .string ⟨#[107, 105, 110, 100]⟩, .int .i64 k_10, .bool i_10, .string x_10, .slice A_10 n_10 c_10, .slice B_10 m_10 d_10, .string ⟨#[114, 97, 110, 103, 101]⟩, .int .i64 k_14, .bool i_14, .string x_14, .slice A_14 n_14 c_14, .slice B_14 m_14 d_14, .string ⟨#[115, 101, 108, 101, 99, 116, 105, 111, 110, 82, 97, 110, 103, 101]⟩, .int .i64 k_18, .bool i_18, .string x_18, .slice A_18 n_18 c_18, .slice B_18 m_18 d_18, .string ⟨#[99, 104, 105, 108, 100, 114, 101, 110]⟩, .int .i64 k_22, .bool i_22, .string x_22, .slice A_22 n_22 c_22, .slice B_22 m_22 d_22] 112)) (v := .slice (some ⟨w'.heap.size, 0, none⟩) 5 5) rfl rfl ?_ (hK _ _ ((Below.refl _ _).alloc (Nat.le_refl _) _) (PSV_new _ _ _ _ _ (PRC.cons G6 (PRC.cons G10 (PRC.cons G14 (PRC.cons G18 (PRC.cons G22 (PRC.nil _ _)))))) (zNew_alloc hB.size)))
    clear ha hF hon hK K
    go_simp
    all_goals first | rfl | (constructor <;> rfl)
  refine steps_cons (told_step 21 (tl_pSymbol_step_ok (zNew c.heap.size) nm x0 x1 x2 x3 x4 x5 x6 x7 x8 A n cap C w) (tl_pSymbol_step_up (zNew c.heap.size) nm x0 x1 x2 x3 x4 x5 x6 x7 x8 A n cap C w) rfl (by kernel_rfl) ?_) ?_
  · intro b V a w' ha hB hF hon
    refine ⟨_, rfl, rfl, fun K hK => ?_⟩
    have e23 := told_get 20 (tl_pSymbol_step_ok (zNew c.heap.size) nm x0 x1 x2 x3 x4 x5 x6 x7 x8 A n cap C w) rfl ha (hon 20 (by kernel_rfl)) (by kernel_rfl)
    have F23 := told_fact 20 hF rfl (hon 20 (by kernel_rfl))
    refine goes_ Tryz.func81 (by kernel_rfl) rfl #[V 20] rfl rfl rfl (by simp only [List.map_toArray, List.map_cons, List.map_nil, Act.eval, Array.getD_eq_getD_getElem?, e23, Option.getD_some]) ?_
    refine (pObject_any [(⟨#[110, 97, 109, 101]⟩, (txT nm)), (⟨#[107, 105, 110, 100]⟩, (nbT x0)), (⟨#[114, 97, 110, 103, 101]⟩, (rangeT x1 x2 x3 x4)), (⟨#[115, 101, 108, 101, 99, 116, 105, 111, 110, 82, 97, 110, 103, 101]⟩, (rangeT x5 x6 x7 x8)), (⟨#[99, 104, 105, 108, 100, 114, 101, 110]⟩, (lsF n C))] w' _ hB.size F23 (Nat.le_of_ble_eq_true rfl)).mono ?_
    rintro e w'' ⟨v, rfl, hv, hb⟩
    exact ⟨v, rfl, hK v w'' hb hv⟩
  refine steps_cons (told_last ?_ ?_) steps_nil
  · intro e he; simp only [tl_pSymbol_step, List.mem_cons, List.mem_nil_iff, or_false] at he; rcases he with rfl | rfl | rfl | rfl | rfl | rfl | rfl | rfl | rfl | rfl | rfl | rfl | rfl | rfl | rfl | rfl | rfl | rfl | rfl | rfl | rfl | rfl <;> kernel_rfl
  intro V a w' ha hB hF
  refine ⟨_, rfl, rfl, fun K hK => ?_⟩
  have e24 := told_get 21 (tl_pSymbol_step_ok (zNew c.heap.size) nm x0 x1 x2 x3 x4 x5 x6 x7 x8 A n cap C w) rfl ha rfl (by kernel_rfl)
  have F24 := hF _ (List.mem_of_getElem? (i := 21) rfl)
  obtain ⟨k_24, i_24, x_24, A_24, n_24, c_24, B_24, m_24, d_24, hv24⟩ := VAL.shape F24
  rw [hv24] at e24 F24
  have e2 : a.tmps[2]? = some (.pointer (some ⟨w.heap.size + 1, 0, none⟩)) := by rw [ha]; exact (putSel_off (by rfl)).trans rfl
  have hg := HR.out.on hB
  have f0 := hg.fr 0
  have y0 := hg.c0
  have f1 := hg.fr 1
  have y1 := hg.c1
  have f2 := hg.fr 2
  have y2 := hg.c2
  have f3 := hg.fr 3
  have y3 := hg.c3
  have f4 := hg.fr 4
  have y4 := hg.c4
  refine skip_ (w1 := five w' (w.heap.size + 1) (.int .i64 k_24) (.bool i_24) (.string x_24) (.slice A_24 n_24 c_24) (.slice B_24 m_24 d_24)) rfl rfl ?_ (hK _ _ ?_)
  · clear ha hF hK K
    go_simp
    all_goals first | rfl | (constructor <;> rfl)
  clear hK K hF e24 e2 f0 y0 f1 y1 f2 y2 f3 y3 f4 y4
  have hres : BX (five w' (w.heap.size + 1) (.int .i64 k_24) (.bool i_24) (.string x_24) (.slice A_24 n_24 c_24) (.slice B_24 m_24 d_24)) (w.heap.size + 1) (.int .i64 k_24) (.bool i_24) (.string x_24) (.slice A_24 n_24 c_24) (.slice B_24 m_24 d_24) := hg.put (.int .i64 k_24) (.bool i_24) (.string x_24) (.slice A_24 n_24 c_24) (.slice B_24 m_24 d_24)
  have r0 := hres.c0
  have r1 := hres.c1
  have r2 := hres.c2
  have r3 := hres.c3
  have r4 := hres.c4
  have HF := Lib.hid F24
  have HB' := Lib.hid hB
  clear hres hg F24 hB
  rw [ha]
  clear ha
  simp only [tl_pSymbol_step, Tolds.put, List.map_cons, List.map_nil, putSel, if_true, Act.put, List.setIfInBounds_toArray, List.set_cons_zero, List.set_cons_succ, hv24]
  clear hv24
  generalize V 0 = u0
  generalize V 1 = u1
  generalize V 2 = u2
  generalize V 3 = u3
  generalize V 4 = u4
  generalize V 5 = u5
  generalize V 6 = u6
  generalize V 7 = u7
  generalize V 8 = u8
  generalize V 9 = u9
  generalize V 10 = u10
  generalize V 11 = u11
  generalize V 12 = u12
  generalize V 13 = u13
  generalize V 14 = u14
  generalize V 15 = u15
  generalize V 16 = u16
  generalize V 17 = u17
  generalize V 18 = u18
  generalize V 19 = u19
  generalize V 20 = u20
  try clear V
  go_wp2
  exact bodyPost_ret (v := .agg #[.int .i64 k_24, .bool i_24, .string x_24, .slice A_24 n_24 c_24, .slice B_24 m_24 d_24]) (by simp [results, Tryz.results83, go_sem, r0, r1, r2, r3, r4]) rfl ⟨_, rfl, five_New HF.out (fun b hb => ⟨Nat.le_trans HB.out.size hb.1, hb.2, by have := HR.out.lt; have := hb.1; omega⟩), five_below (HB.out.trans (HB'.out.mono HB.out.size)) _ _ _ _ _ _ (by omega)⟩

theorem SYV.root {w : World} {S : Nat → Prop} {t : SY} {cs : List Value} (h : SYV w S t cs) : ∃ nm k a b c d e f g h n kids, t = .mk nm k a b c d e f g h n kids := by
  cases t with
  | leaf => exact h.elim
  | mk nm k a b c d e f g h n kids => exact ⟨_, _, _, _, _, _, _, _, _, _, _, _, rfl⟩
/-- a symbol's contract -/
def Psym (t : SY) : Prop := ∀ (B : Nat) (W : World) (cs : List Value), SYV W (fun b => b < B) t cs → B ≤ W.heap.size → PTab W → Calls Tryz.prog 83 #[.agg cs.toArray] W (Copied t.tree W)
set_option maxRecDepth 100000 in
set_option maxHeartbeats 4000000 in
theorem all_S (B n : Nat) (kids : Nat → SY) (w : World) (A : Option Addr) (cap : Nat) (hl : n ≤ 1073741824) (hr : SYA B A n kids w) (hP : PTab w) (ih : ∀ j, j < n → Psym (kids j)) : Calls Tryz.prog 82 #[.slice A n cap, .func (.func 83) #[] #[]] w (Copied (lsF n fun j => (kids j).tree) w) := by
  have Hhr := Lib.hid hr
  have HhP := Lib.hid hP
  have Hih := Lib.hid ih
  clear hr hP ih
  
  obtain ⟨i0, hi0, hz0, hz1, hz2⟩ := info_parts Tryz.infoV
  have HI0 := Lib.hid hi0
  have HZ0 := Lib.hid hz0
  have HZ1 := Lib.hid hz1
  have HZ2 := Lib.hid hz2
  clear hi0 hz0 hz1 hz2
  have HAT : Hid (ALat w (w.heap.size + 2) w.heap.size (w.heap.size + 1)) := Lib.hid ⟨by omega, by omega, by omega, by omega, by omega⟩
  go_enter Tryz.func82, Tryz.ntmps82
  go_wp2_with fail
  go_loopg [11] n (fun q v wr => ∃ (p : Nat) (ov : Value) (xs : List Value), p + q = n ∧ v = .int .i64 p ∧ AL w (w.heap.size + 2) w.heap.size (w.heap.size + 1) (fun j => (kids j).tree) p ov xs wr)
  case atStart => exact ⟨0, _, [], by omega, rfl, al2_0 w _ _, al2_1 w _ _, al2_below w _ _, World.ownsRow_nil _ _ _ _, VR.nil _ _ _, by simp⟩
  case round =>
    obtain ⟨p, ov, xs, hp, rfl, hM⟩ := hrel
    have HP := Lib.hid hp
    have HM := Lib.hid hM
    clear hp hM
    by_cases hlt : p < n
    · have hd0 : decide ((p : Int) < (n : Int)) = true := by simp; omega
      have hd1 : decide (p < n) = true := by simp; omega
      have i1 : (0 : Int) ≤ p := by omega
      have i2 : (p : Int) < n := by omega
      rcases Hhr.out.row with h0 | ⟨bl, off, rfl, hbl, hc⟩
      · omega
      obtain ⟨ds, hds, hsv⟩ := hc p hlt
      have hcall := Hih.out p hlt
      obtain ⟨nm, x0, x1, x2, x3, x4, x5, x6, x7, x8, n', kids', hkp⟩ := SYV.root hsv
      rw [hkp] at hsv hcall
      have hsv0 := hsv
      obtain ⟨A', cap', rfl, hq, hrow⟩ := hsv
      have HT : Hid ((fun j => (kids j).tree) p = symT nm x0 x1 x2 x3 x4 x5 x6 x7 x8 (lsF n' fun j => (kids' j).tree)) := Lib.hid (by show (kids p).tree = _; rw [hkp]; rfl)
      have kk : ∀ o, wr.cell? ⟨bl, o, none⟩ = w.cell? ⟨bl, o, none⟩ := fun o => HM.out.below.cell (p := ⟨bl, o, none⟩) (Nat.lt_of_lt_of_le hbl Hhr.out.le)
      have k0 := (kk _).trans (hds 0 _ rfl)
      have k1 := (kk _).trans (hds 1 _ rfl)
      have k2 := (kk _).trans (hds 2 _ rfl)
      have k3 := (kk _).trans (hds 3 _ rfl)
      have k4 := (kk _).trans (hds 4 _ rfl)
      have k5 := (kk _).trans (hds 5 _ rfl)
      have k6 := (kk _).trans (hds 6 _ rfl)
      have k7 := (kk _).trans (hds 7 _ rfl)
      have k8 := (kk _).trans (hds 8 _ rfl)
      have k9 := (kk _).trans (hds 9 _ rfl)
      have k10 := (kk _).trans (hds 10 _ rfl)
      rw [Nat.add_zero] at k0
      have HC : Hid (∀ W, Below w.heap.size w W → Calls Tryz.prog 83 #[.agg #[.string nm, .int .i64 x0, .int .i64 x1, .int .i64 x2, .int .i64 x3, .int .i64 x4, .int .i64 x5, .int .i64 x6, .int .i64 x7, .int .i64 x8, .slice A' n' cap']] W (Copied (symT nm x0 x1 x2 x3 x4 x5 x6 x7 x8 (lsF n' fun j => (kids' j).tree)) W)) := Lib.hid (fun W hW => hcall B W _ (hsv0.on (fun b hb => Nat.lt_of_lt_of_le hb Hhr.out.le) hW) (Nat.le_trans Hhr.out.le hW.size) (HhP.out.on hW))
      clear kk hds hc hcall hsv0 hrow hlt hkp hq
      go_wp2_with fail
      have hba := (Below.refl wr.heap.size wr).alloc (Nat.le_refl _) (.cells #[.string nm, .int .i64 x0, .int .i64 x1, .int .i64 x2, .int .i64 x3, .int .i64 x4, .int .i64 x5, .int .i64 x6, .int .i64 x7, .int .i64 x8, .slice A' n' cap'] 114)
      have HX : Hid (BK (wr.alloc (.cells #[.string nm, .int .i64 x0, .int .i64 x1, .int .i64 x2, .int .i64 x3, .int .i64 x4, .int .i64 x5, .int .i64 x6, .int .i64 x7, .int .i64 x8, .slice A' n' cap'] 114)) wr.heap.size 114 #[.string nm, .int .i64 x0, .int .i64 x1, .int .i64 x2, .int .i64 x3, .int .i64 x4, .int .i64 x5, .int .i64 x6, .int .i64 x7, .int .i64 x8, .slice A' n' cap']) := Lib.hid (BK.new wr _ _)
      have HXo : Hid (ov.ownBlock ≠ some wr.heap.size ∧ w.heap.size + 2 ≤ wr.heap.size) := Lib.hid ⟨fun e => by have := (HM.out.own.lt _ e).2; omega, HM.out.size⟩
      replace HM := Lib.hid (HM.out.on hba)
      clear hba k0 k1 k2 k3 k4 k5 k6 k7 k8 k9 k10
      generalize (wr.alloc (.cells #[.string nm, .int .i64 x0, .int .i64 x1, .int .i64 x2, .int .i64 x3, .int .i64 x4, .int .i64 x5, .int .i64 x6, .int .i64 x7, .int .i64 x8, .slice A' n' cap'] 114)) = w1 at *
      generalize wr.heap.size = g5 at *
      refine start_ (n := 9) (S := ALS (w.heap.size + 1) g5 ov 114 #[.string nm, .int .i64 x0, .int .i64 x1, .int .i64 x2, .int .i64 x3, .int .i64 x4, .int .i64 x5, .int .i64 x6, .int .i64 x7, .int .i64 x8, .slice A' n' cap']) (ds := [8]) #[false, false, false, false, false, false, false, false, false] (by kernel_rfl) rfl rfl ⟨HM.out.out, HX.out⟩ (fun hHeld => ?_)
      have hbd : Below w1.heap.size w1 w1.drew := (Below.refl _ _).drew
      replace HM := Lib.hid (HM.out.on hbd)
      replace HX := Lib.hid (HX.out.on hbd)
      clear hbd
      generalize w1.drew = w2 at *
      refine pure_ (i := 0) (N := some 15) (v := ?_) (a' := ?_) #[true, false, false, false, false, false, false, false, false] rfl rfl (by kernel_rfl) (fun _ _ _ h => h) (Or.inl ⟨by rfl, ?_⟩) ?_ ?_
      rotate_left
      · intro w'; go_simp; with_reducible rfl
      rotate_left
      · simp only [Act.put, List.setIfInBounds_toArray, List.set_cons_zero, List.set_cons_succ, i64_w, i32_w]; rfl
      refine pure_ (i := 2) (N := some 17) (v := ?_) (a' := ?_) #[true, false, true, false, false, false, false, false, false] rfl rfl (by kernel_rfl) (fun _ _ _ h => h) (Or.inl ⟨by rfl, ?_⟩) ?_ ?_
      rotate_left
      · intro w'; go_simp; with_reducible rfl
      rotate_left
      · simp only [Act.put, List.setIfInBounds_toArray, List.set_cons_zero, List.set_cons_succ, i64_w, i32_w]; rfl
      refine take_ (i := 1) (N := some 16) (v := ?_) (a' := ?_) #[true, true, true, false, false, false, false, false, false] rfl rfl (by kernel_rfl) (fun _ _ _ h => h) (Or.inl ⟨by rfl, ?_⟩) hHeld ?_ ?_
      rotate_left
      · intro w' hh; have s3 := hh.box.c3; have t0 := hh.x.c 0 rfl; have t1 := hh.x.c 1 rfl; have t2 := hh.x.c 2 rfl; have t3 := hh.x.c 3 rfl; have t4 := hh.x.c 4 rfl; have t5 := hh.x.c 5 rfl; have t6 := hh.x.c 6 rfl; have t7 := hh.x.c 7 rfl; have t8 := hh.x.c 8 rfl; have t9 := hh.x.c 9 rfl; have t10 := hh.x.c 10 rfl; clear hh; go_simp; with_reducible rfl
      rotate_left
      · simp only [Act.put, List.setIfInBounds_toArray, List.set_cons_zero, List.set_cons_succ, i64_w, i32_w]; rfl
      refine take_ (i := 3) (N := some 18) (v := ?_) (a' := ?_) #[true, true, true, true, false, false, false, false, false] rfl rfl (by kernel_rfl) (fun _ _ _ h => h) (Or.inl ⟨by rfl, ?_⟩) hHeld ?_ ?_
      rotate_left
      · intro w' hh; have s3 := hh.box.c3; have t0 := hh.x.c 0 rfl; have t1 := hh.x.c 1 rfl; have t2 := hh.x.c 2 rfl; have t3 := hh.x.c 3 rfl; have t4 := hh.x.c 4 rfl; have t5 := hh.x.c 5 rfl; have t6 := hh.x.c 6 rfl; have t7 := hh.x.c 7 rfl; have t8 := hh.x.c 8 rfl; have t9 := hh.x.c 9 rfl; have t10 := hh.x.c 10 rfl; clear hh; go_simp; with_reducible rfl
      rotate_left
      · simp only [Act.put, List.setIfInBounds_toArray, List.set_cons_zero, List.set_cons_succ, i64_w, i32_w]; rfl
      refine one_ (i := 4) (N := some 19) #[true, true, true, true, true, false, false, false, false] rfl rfl (by kernel_rfl) (by decide) (fun K hK => ?_)
      refine goesV_ Tryz.func83 (by kernel_rfl) rfl #[.agg #[.string nm, .int .i64 x0, .int .i64 x1, .int .i64 x2, .int .i64 x3, .int .i64 x4, .int .i64 x5, .int .i64 x6, .int .i64 x7, .int .i64 x8, .slice A' n' cap']] (by rfl) rfl rfl (by rfl) (by (try simp only [List.map_toArray, List.map_cons, List.map_nil]); first | done | rfl) ?_
      have HBw := Lib.hid HM.out.below
      refine (HC.out w2 HBw.out).mono ?_
      rintro e w3 ⟨v', rfl, hv, hb⟩
      refine ⟨_, rfl, ?_⟩
      obtain ⟨v0, v1, v2, v3, v4, rfl⟩ := hv.five
      refine hK.out _ _ (hHeld.on hb) (fun hHeld2 => ?_)
      clear hK K hHeld
      have HV2 : Hid (VAL w3 (fun b => w.heap.size + 2 ≤ b ∧ b < w3.heap.size ∧ ov.ownBlock ≠ some b) _ (.agg #[v0, v1, v2, v3, v4])) := Lib.hid (hv.mono (fun b hb => ⟨Nat.le_trans HM.out.size hb.1, hb.2, fun e => by have := (HM.out.own.lt b e).2; have := hb.1; omega⟩))
      replace HM := Lib.hid (HM.out.on hb)
      replace HX := Lib.hid (HX.out.on hb)
      clear hb hv HBw
      refine norm_ (a' := ?_) ?_ ?_
      rotate_left
      · show Act.put _ (some 19) _ = _; simp only [Act.put, List.setIfInBounds_toArray, List.set_cons_zero, List.set_cons_succ, i64_w, i32_w]; rfl
      refine one_ (i := 5) (N := some 20) #[true, true, true, true, true, true, false, false, false] rfl rfl (by kernel_rfl) (by decide) (fun K hK => ?_)
      refine value_ (w1 := (w3.alloc (.cells #[v0, v1, v2, v3, v4] 30))) (v := .slice (some ⟨w3.heap.size, 0, none⟩) 1 1) rfl rfl ?_ ?_
      · go_simp
        all_goals first | rfl | (constructor <;> rfl)
      have hba := (Below.refl w3.heap.size w3).alloc (Nat.le_refl _) (.cells #[v0, v1, v2, v3, v4] 30)
      refine hK.out _ _ (hHeld2.on hba) (fun hHeld => ?_)
      clear hK K hHeld2
      have HN3 : Hid (BK (w3.alloc (.cells #[v0, v1, v2, v3, v4] 30)) w3.heap.size 30 #[v0, v1, v2, v3, v4]) := Lib.hid (BK.new w3 _ _)
      replace HV2 : Hid (VAL (w3.alloc (.cells #[v0, v1, v2, v3, v4] 30)) (fun b => w.heap.size + 2 ≤ b ∧ b < (w3.alloc (.cells #[v0, v1, v2, v3, v4] 30)).heap.size ∧ ov.ownBlock ≠ some b) _ (.agg #[v0, v1, v2, v3, v4])) := Lib.hid ((HV2.out.same (below_same hba (fun b hb => hb.2.1))).mono (fun b hb => ⟨hb.1, Nat.lt_of_lt_of_le hb.2.1 hba.size, hb.2.2⟩))
      replace HM := Lib.hid (HM.out.on hba)
      replace HX := Lib.hid (HX.out.on hba)
      clear hba
      refine norm_ (a' := ?_) ?_ ?_
      rotate_left
      · show Act.put _ (some 20) _ = _; simp only [Act.put, List.setIfInBounds_toArray, List.set_cons_zero, List.set_cons_succ, i64_w, i32_w]; rfl
      generalize (w3.alloc (.cells #[v0, v1, v2, v3, v4] 30)) = w4 at *
      generalize w3.heap.size = q3 at *
      refine one_ (i := 6) (N := some 21) #[true, true, true, true, true, true, true, false, false] rfl rfl (by kernel_rfl) (by decide) (fun K hK => ?_)
      refine step_append_lies _ rfl (.tmp 16) (.tmp 20) 28 rfl (w.heap.size + 2) 30 i0 _ 5 80 Tryz.underlying28 HI0.out HZ0.out HZ1.out HZ2.out rfl (by omega) ov p xs (by rfl) HM.out.own ⟨q3, 0, none⟩ 1 1 [v0, v1, v2, v3, v4] (by rfl) (by rfl) (World.news_of_block HN3.out) HV2.out.one (by omega)
        (by unfold maxLen; omega) (by omega) HM.out.size _ rfl ?_
      intro g ncap w5 hown hgrow hat hlt5
      have HM5 := Lib.hid (HM.out.grown HAT.out (Eq.mpr (congrArg (fun t => VAL w4 _ t (.agg #[v0, v1, v2, v3, v4])) HT.out) HV2.out) hown hgrow hat)
      have hO := HM.out.out.same (hgrow.block _ (by have := HM.out.size; omega) (own_ne HM.out.own (by omega)))
      refine hK.out _ _ ⟨hO, (hgrow.block _ HX.out.lt (fun e => HXo.out.1 e.symm)).trans HX.out⟩ (fun hHeld2 => ?_)
      clear hK K hHeld HM HX HV2 HN3 hown hgrow hat hlt5
      refine norm_ (a' := ?_) ?_ ?_
      rotate_left
      · show Act.put _ (some 21) _ = _; simp only [Act.put, List.setIfInBounds_toArray, List.set_cons_zero, List.set_cons_succ, i64_w, i32_w]; rfl
      refine pure_ (i := 7) (N := some 22) (v := ?_) (a' := ?_) #[true, true, true, true, true, true, true, true, false] rfl rfl (by kernel_rfl) (fun _ _ _ h => h) (Or.inl ⟨by rfl, ?_⟩) ?_ ?_
      rotate_left
      · intro w'; go_simp; with_reducible rfl
      rotate_left
      · simp only [Act.put, List.setIfInBounds_toArray, List.set_cons_zero, List.set_cons_succ, i64_w, i32_w]; rfl
      refine last_ (i := 8) (N := none) #[true, true, true, true, true, true, true, true, true] rfl rfl (by kernel_rfl) (by decide) (fun K hK => ?_)
      have f3 := hO.fr 3
      have s3 := hO.c3
      refine skip_ (w1 := w5.setCell ⟨w.heap.size + 1, 3, none⟩ (.slice (some ⟨g, 0, none⟩) (p + 1) ncap)) rfl rfl ?_ (hK.out _ _ ?_)
      · go_simp
        all_goals first | rfl | (constructor <;> rfl)
      clear hK K f3 s3 hO hHeld2
      generalize (w5.setCell ⟨w.heap.size + 1, 3, none⟩ (.slice (some ⟨g, 0, none⟩) (p + 1) ncap)) = w6 at *
      refine done_ (by kernel_rfl) ?_
      go_wp2
      go_roundg (gk - 1)
      case measure => have := HP.out; omega
      case rel => exact ⟨p + 1, _, _, by have := HP.out; omega, by go_num, HM5.out⟩
    · have hd1 : decide (p < n) = false := by simp; omega
      have hd2 : decide ((p : Int) < (n : Int)) = false := by simp; omega
      have hpn : p = n := by have := HP.out; omega
      subst hpn
      obtain ⟨OA, ocap, hov, hVV⟩ := HM.out.val
      subst hov
      have HVV := Lib.hid hVV
      have hg := HM.out.out
      have y0 := hg.c0
      have y1 := hg.c1
      have y2 := hg.c2
      have y3 := hg.c3
      have y4 := hg.c4
      have hz := HM.out.res
      have z0 := hz.c0
      have z1 := hz.c1
      have z2 := hz.c2
      have z3 := hz.c3
      have z4 := hz.c4
      have f0 := hz.fr 0
      have f1 := hz.fr 1
      have f2 := hz.fr 2
      have f3 := hz.fr 3
      have f4 := hz.fr 4
      have hres := hz.put (.int .i64 4) (.bool false) (.string ⟨#[]⟩) (.slice OA p ocap) (.slice none 0 0)
      have r0 := hres.c0
      have r1 := hres.c1
      have r2 := hres.c2
      have r3 := hres.c3
      have r4 := hres.c4
      clear hres hg hz hVV hlt
      go_wp2
      refine bodyPost_ret (v := .agg #[.int .i64 4, .bool false, .string ⟨#[]⟩, .slice OA p ocap, .slice none 0 0]) (by simp [results, Tryz.results82, go_sem, r0, r1, r2, r3, r4]) rfl ⟨_, rfl, ?_, five_below HM.out.below w.heap.size _ _ _ _ _ (Nat.le_refl _)⟩
      exact five_New (w := w) (u0 := .int .i64 4) (u1 := .bool false) (u2 := .string ⟨#[]⟩) (u3 := .slice OA p ocap) (u4 := .slice none 0 0) (g := w.heap.size) HVV.out (fun b hb => ⟨by have := hb.1; omega, hb.2, by have := hb.1; omega⟩)

set_option maxRecDepth 100000 in
set_option maxHeartbeats 4000000 in
theorem pSymbols_of (B n : Nat) (kids : Nat → SY) (w : World) (A : Option Addr) (cap : Nat) (hl : n ≤ 1073741824) (hr : SYA B A n kids w) (hP : PTab w) (ih : ∀ j, j < n → Psym (kids j)) : Calls Tryz.prog 40 #[.slice A n cap] w (Copied (lsF n fun j => (kids j).tree) w) := by
  have Hhr := Lib.hid hr
  have HhP := Lib.hid hP
  have Hih := Lib.hid ih
  clear hr hP ih
  have HBX := Lib.hid (BX.new w (.int .i64 0) (.bool false) (.string ⟨#[]⟩) (.slice none 0 0) (.slice none 0 0))
  have HB := Lib.hid (made_end (w := w) (.cells #[.int .i64 0, .bool false, .string ⟨#[]⟩, .slice none 0 0, .slice none 0 0] 30))
  go_enter Tryz.func40, Tryz.ntmps40
  go_wp2_with fail
  generalize (w.alloc (.cells #[.int .i64 0, .bool false, .string ⟨#[]⟩, .slice none 0 0, .slice none 0 0] 30)) = w1 at *
  refine (all_S B n kids w1 A cap hl (Hhr.out.on HB.out) (HhP.out.on HB.out) Hih.out).mono ?_
  rintro e w2 ⟨x, rfl, hx, hb⟩
  obtain ⟨kv, iv, xv, Av, nv, cv, Bv, mv, dv, rfl⟩ := VAL.shape hx
  have HX := Lib.hid hx
  have HB2 := Lib.hid (HB.out.trans (hb.mono HB.out.size))
  have hy := HBX.out.on hb
  have HZ1 := Lib.hid HBX.out.lt
  have y0 := hy.c0
  have f0 := hy.fr 0
  have y1 := hy.c1
  have f1 := hy.fr 1
  have y2 := hy.c2
  have f2 := hy.fr 2
  have y3 := hy.c3
  have f3 := hy.fr 3
  have y4 := hy.c4
  have f4 := hy.fr 4
  have hres := hy.put (.int .i64 kv) (.bool iv) (.string xv) (.slice Av nv cv) (.slice Bv mv dv)
  have r0 := hres.c0
  have r1 := hres.c1
  have r2 := hres.c2
  have r3 := hres.c3
  have r4 := hres.c4
  clear hres hy hb hx
  go_wp2
  refine bodyPost_ret (v := .agg #[.int .i64 kv, .bool iv, .string xv, .slice Av nv cv, .slice Bv mv dv]) (by simp [results, Tryz.results40, go_sem, r0, r1, r2, r3, r4]) rfl ⟨_, rfl, five_New HX.out (fun b hb => ⟨by have := hb.1; have := HZ1.out; omega, hb.2, by have := hb.1; have := HZ1.out; omega⟩), five_below HB2.out w.heap.size _ _ _ _ _ (Nat.le_refl _)⟩

theorem SYV.sya {B : Nat} {w : World} {nm : ByteArray} {k a b c d e f g h : Int} {n : Nat} {kids : Nat → SY} {cs : List Value} (hv : SYV w (fun b => b < B) (.mk nm k a b c d e f g h n kids) cs) (hB : B ≤ w.heap.size) : ∃ A cap, cs = SY.cells nm k a b c d e f g h A n cap ∧ (I64 k ∧ I64 a ∧ I64 b ∧ I64 c ∧ I64 d ∧ I64 e ∧ I64 f ∧ I64 g ∧ I64 h) ∧ SYA B A n kids w := by
  obtain ⟨A, cap, e0, hk, hr⟩ := hv
  exact ⟨A, cap, e0, hk, hB, hr⟩
theorem pSymbol (t : SY) : t.tree.bulk ≤ 1073741824 → Psym t := by
  induction t with
  | leaf => intro _ B W cs h; exact h.elim
  | mk nm k a b c d e f g h n kids ih =>
    intro hbk B W cs hv hB hP
    obtain ⟨A, cap, rfl, hq, hr⟩ := hv.sya hB
    have h1 : (lsF n fun j => (kids j).tree).bulk < 1073741824 := Nat.lt_of_lt_of_le (symT_kid nm k a b c d e f g h _) hbk
    exact pSymbol_step nm k a b c d e f g h A n cap (fun j => (kids j).tree) W hq hP (fun W' hW' => pSymbols_of B n kids W' A cap (by have := lsF_n n (fun j => (kids j).tree); omega) (hr.on hW') (hP.on hW') (fun j hj => ih j (by have := lsF_kid n (fun j => (kids j).tree) j hj; omega)))
theorem pSymbols (B n : Nat) (kids : Nat → SY) (w : World) (A : Option Addr) (cap : Nat) (hr : SYA B A n kids w) (hP : PTab w) (hbk : (lsF n fun j => (kids j).tree).bulk ≤ 1073741824) : Calls Tryz.prog 40 #[.slice A n cap] w (Copied (lsF n fun j => (kids j).tree) w) :=
  pSymbols_of B n kids w A cap (by have := lsF_n n (fun j => (kids j).tree); omega) hr hP (fun j hj => pSymbol _ (by have := lsF_kid n (fun j => (kids j).tree) j hj; omega))
end Go.Proofs.YthndgekjccclnaaGreatDoor
