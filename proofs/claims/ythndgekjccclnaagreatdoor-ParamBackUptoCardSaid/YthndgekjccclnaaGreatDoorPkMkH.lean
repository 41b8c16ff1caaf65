/-
  Joined texts: MkPub.
-/
import Derived.Test.YthndgekjccclnaaGreatDoorPkMkG
namespace Go.Proofs.YthndgekjccclnaaGreatDoor
open Go.RowKit Val Num Go.Proofs.YthndgekjccclnaaGreatDoorW.PrintLast
set_option linter.unusedVariables false
set_option linter.unusedSimpArgs false
def diagsN : ByteArray := ⟨#[100, 105, 97, 103, 110, 111, 115, 116, 105, 99, 115]⟩
def pubT (uri : ByteArray) (ver : Int) (has : Bool) (ts : List VT) : VT := if has then obT [VT.uriN, VT.versionN, diagsN] [txT uri, nbT ver, lsT ts] else obT [VT.uriN, diagsN] [txT uri, lsT ts]
theorem Tryz.infoP : (Tryz.prog.info? 112).map (fun i => (i.zero, i.size, i.bytes)) = some (some (.agg #[.string .empty, .int .i64 0, .bool false, .string .empty, .slice none 0 0, .slice none 0 0]), 6, 96) := by kernel_rfl
theorem VAL.grown {W W' : World} {S : Nat → Prop} {t : VT} {v : Value} {row : Option Nat} (h : VAL W S t v) (hg : W.grownBy W' row) (hS : ∀ b, S b → b < W.heap.size ∧ row ≠ some b) : VAL W' S t v :=
  VAL.same (grown_same hg (fun b hb => ⟨(hS b hb).1, fun e => (hS b hb).2 e.symm⟩)) h
set_option maxRecDepth 100000 in
set_option maxHeartbeats 4000000 in
theorem pPublish (uri : ByteArray) (ver : Int) (has : Bool) (l : List Dg) (w : World) (A : Option Addr) (cap : Nat) (hl : l.length ≤ 1048576) (he : ER 6 Dg.enc w (fun b => b < w.heap.size) A l) (iv : I64 ver) (hP : PTab w) (ho : ∀ x ∈ l, Dg.ok x) :
    Calls Tryz.prog 47 #[.string uri, .int .i64 ver, .bool has, .slice A l.length cap] w (Copied (pubT uri ver has (l.map Dg.tree)) w) := by
  have HE := Lib.hid he.ea
  have HV := Lib.hid iv
  have HP := Lib.hid hP
  have HO := Lib.hid ho
  clear he iv hP ho
  obtain ⟨p0, hp0, hz0, hz1, hz2⟩ := info_parts Tryz.infoP
  have HP0 := Lib.hid hp0
  have HZ0 := Lib.hid hz0
  have HZ1 := Lib.hid hz1
  have HZ2 := Lib.hid hz2
  clear hp0 hz0 hz1 hz2
  have HB : Hid (Below w.heap.size w (w.alloc (.cells #[.int .i64 0, .bool false, .string ⟨#[]⟩, .slice none 0 0, .slice none 0 0] 30))) := Lib.hid (made_end _)
  have HR : Hid (BX (w.alloc (.cells #[.int .i64 0, .bool false, .string ⟨#[]⟩, .slice none 0 0, .slice none 0 0] 30)) w.heap.size (.int .i64 0) (.bool false) (.string ⟨#[]⟩) (.slice none 0 0) (.slice none 0 0)) := Lib.hid (BX.new w _ _ _ _ _)
  have HQ : Hid (w.heap.size + 1 ≤ (w.alloc (.cells #[.int .i64 0, .bool false, .string ⟨#[]⟩, .slice none 0 0, .slice none 0 0] 30)).heap.size) := Lib.hid (by simp)
  obtain ⟨n, hn⟩ : ∃ n, l.length = n := ⟨_, rfl⟩
  have HN := Lib.hid hn
  rw [hn]
  have HL := Lib.hid hl
  clear hn hl
  go_enter Tryz.func47, Tryz.ntmps47
  go_wp2_with fail
  generalize (w.alloc (.cells #[.int .i64 0, .bool false, .string ⟨#[]⟩, .slice none 0 0, .slice none 0 0] 30)) = w1 at *
  refine (vText_any uri w1).mono ?_
  rintro e w2 ⟨rfl, hb⟩
  replace HR := Lib.hid (HR.out.on hb)
  replace HQ := Lib.hid (Nat.le_trans HQ.out hb.size)
  replace HB := Lib.hid (HB.out.trans (hb.mono HB.out.size))
  clear hb
  cases has
  · skip
    go_wp2_with fail
    have hb := made_end (w := w2) (.cells #[.string ⟨#[117, 114, 105]⟩, .int .i64 3, .bool false, .string uri, .slice none 0 0, .slice none 0 0] 112)
    have HOWN : Hid ((w2.alloc (.cells #[.string ⟨#[117, 114, 105]⟩, .int .i64 3, .bool false, .string uri, .slice none 0 0, .slice none 0 0] 112)).ownsRow (w.heap.size + 1) 112 6 (.slice (some ⟨w2.heap.size, 0, none⟩) 1 1) 1 [.string ⟨#[117, 114, 105]⟩, .int .i64 3, .bool false, .string uri, .slice none 0 0, .slice none 0 0]) := Lib.hid (own_lit (n := 1) (k := 6) (BK.new w2 _ #[.string ⟨#[117, 114, 105]⟩, .int .i64 3, .bool false, .string uri, .slice none 0 0, .slice none 0 0]) rfl HQ.out (by unfold maxLen; omega))
    replace HR := Lib.hid (HR.out.on hb)
    replace HQ := Lib.hid (Nat.le_trans HQ.out hb.size)
    replace HB := Lib.hid (HB.out.trans (hb.mono HB.out.size))
    clear hb
    generalize (w2.alloc (.cells #[.string ⟨#[117, 114, 105]⟩, .int .i64 3, .bool false, .string uri, .slice none 0 0, .slice none 0 0] 112)) = w3 at *
    generalize w2.heap.size = q at *
    have hC := all_D l w3 A cap HL.out (HE.out.on HB.out).er (HP.out.on HB.out) HO.out
    rw [HN.out] at hC
    refine hC.mono ?_
    clear hC
    rintro e wd ⟨v, rfl, hv, hb⟩
    obtain ⟨kd, id, xd, Ad, nd, cd, Bd, md, dd, rfl⟩ := VAL.shape hv
    have HVd := Lib.hid hv
    have HQ3 := Lib.hid HQ.out
    have H3 : Hid (∀ k, ((.slice (some ⟨q, 0, none⟩) 1 1) : Value).ownBlock = some k → k < w3.heap.size) := Lib.hid (fun k hk => (HOWN.out.lt k hk).2)
    replace HR := Lib.hid (HR.out.on hb)
    replace HQ := Lib.hid (Nat.le_trans HQ.out hb.size)
    replace HB := Lib.hid (HB.out.trans (hb.mono HB.out.size))
    replace HOWN := Lib.hid (own_on HOWN.out hb)
    clear hv hb
    go_wp2_with (at_builtin; refine wpList_append_lies _ rfl (.tmp 21) (.tmp 25) 120 rfl (w.heap.size + 1) 112 p0 _ 6 96 Tryz.underlying120 HP0.out HZ0.out HZ1.out HZ2.out rfl (by omega) (.slice (some ⟨q, 0, none⟩) 1 1) 1 [.string ⟨#[117, 114, 105]⟩, .int .i64 3, .bool false, .string uri, .slice none 0 0, .slice none 0 0] rfl (HOWN.out.alloc _) ⟨wd.heap.size, 0, none⟩ 1 1 [.string ⟨#[100, 105, 97, 103, 110, 111, 115, 116, 105, 99, 115]⟩, .int .i64 kd, .bool id, .string xd, .slice Ad nd cd, .slice Bd md dd] rfl rfl (World.news_of_block (heap_alloc_new wd _)) (by intro u hu; simp only [List.mem_cons, List.mem_nil_iff, or_false] at hu; rcases hu with h | h | h | h | h | h <;> subst h <;> rfl) (by omega) (by unfold maxLen; omega) (by omega) (Nat.le_trans HQ.out (by simp)) _ rfl ?_)
    intro g1 cp1 wdg hown hgrow hat hlt
    have hb := made_end (w := wd) (.cells #[.string ⟨#[100, 105, 97, 103, 110, 111, 115, 116, 105, 99, 115]⟩, .int .i64 kd, .bool id, .string xd, .slice Ad nd cd, .slice Bd md dd] 112)
    have hrow : ∀ k, ((.slice (some ⟨q, 0, none⟩) 1 1) : Value).ownBlock = some k → w.heap.size + 1 ≤ k ∧ k < wd.heap.size := fun k hk => HOWN.out.lt k hk
    replace HVd := Lib.hid (VAL.grown (VAL.on HVd.out (fun b hb => hb.2) hb) hgrow (fun b hb' => ⟨Nat.lt_of_lt_of_le hb'.2 hb.size, fun e => by have := H3.out b e; have := hb'.1; omega⟩))
    have HQ4 := Lib.hid (Nat.le_trans hb.size hgrow.size)
    replace HR := Lib.hid ((HR.out.on hb).same (hgrow.block _ (HR.out.on hb).lt (fun e => by have := (hrow _ e.symm).1; omega)))
    replace HB := Lib.hid ((HB.out.trans (hb.mono HB.out.size)).grown hgrow (Nat.le_trans HB.out.size hb.size) (fun k hk => by have := (hrow k hk).1; omega))
    replace HQ := Lib.hid (Nat.le_trans HQ.out (Nat.le_trans hb.size hgrow.size))
    clear HOWN
    have HOWN := Lib.hid hown
    clear hown hb hgrow hat hlt hrow
    clear H3
    go_wp2_with fail
    replace HVd := Lib.hid (VAL.mono (S' := (zNew (w.heap.size + 1)).S wdg) (fun b hb => ⟨Nat.le_trans HQ3.out hb.1, Nat.lt_of_lt_of_le hb.2 HQ4.out⟩) HVd.out)
    refine (pObject_any (B := w.heap.size + 1) [(⟨#[117, 114, 105]⟩, txT uri), (⟨#[100, 105, 97, 103, 110, 111, 115, 116, 105, 99, 115]⟩, lsT (l.map Dg.tree))] wdg _ HQ.out (PSV_of_own HOWN.out (PRC.cons (p := (⟨#[117, 114, 105]⟩, txT uri)) (VAL.shut (by decide) (.inl rfl) (.inl rfl)) (PRC.cons (p := (⟨#[100, 105, 97, 103, 110, 111, 115, 116, 105, 99, 115]⟩, lsT (l.map Dg.tree))) HVd.out (PRC.nil _ _))) rfl (fun b hb => HOWN.out.lt b hb)) (Nat.le_of_ble_eq_true rfl)).mono ?_
    rintro e wo ⟨v, rfl, hv, hb⟩
    clear HOWN
    obtain ⟨kzz, izz, xzz, Azz, nzz, czz, Bzz, mzz, dzz, rfl⟩ := VAL.shape hv
    have HVo := Lib.hid hv
    replace HR := Lib.hid (HR.out.on hb)
    replace HQ := Lib.hid (Nat.le_trans HQ.out hb.size)
    replace HB := Lib.hid (HB.out.trans (hb.mono HB.out.size))
    clear hv hb HVd
    have hg := HR.out
    have f0 := hg.fr 0
    have y0 := hg.c0
    have f1 := hg.fr 1
    have y1 := hg.c1
    have f2 := hg.fr 2
    have y2 := hg.c2
    have f3 := hg.fr 3
    have y3 := hg.c3
    have f4 := hg.fr 4
    have y4 := hg.c4
    have hres := hg.put (.int .i64 kzz) (.bool izz) (.string xzz) (.slice Azz nzz czz) (.slice Bzz mzz dzz)
    have r0 := hres.c0
    have r1 := hres.c1
    have r2 := hres.c2
    have r3 := hres.c3
    have r4 := hres.c4
    clear hres hg
    go_wp2
    exact bodyPost_ret (v := .agg #[.int .i64 kzz, .bool izz, .string xzz, .slice Azz nzz czz, .slice Bzz mzz dzz]) (by simp [results, Tryz.results47, go_sem, r0, r1, r2, r3, r4]) rfl ⟨_, rfl, five_New HVo.out (fun b hb => ⟨by have := hb.1; omega, hb.2, by have := hb.1; omega⟩), five_below HB.out w.heap.size _ _ _ _ _ (Nat.le_refl _)⟩
  · skip
    go_wp2_with fail
    have hb := made_end (w := w2) (.cells #[.string ⟨#[117, 114, 105]⟩, .int .i64 3, .bool false, .string uri, .slice none 0 0, .slice none 0 0] 112)
    have HOWN : Hid ((w2.alloc (.cells #[.string ⟨#[117, 114, 105]⟩, .int .i64 3, .bool false, .string uri, .slice none 0 0, .slice none 0 0] 112)).ownsRow (w.heap.size + 1) 112 6 (.slice (some ⟨w2.heap.size, 0, none⟩) 1 1) 1 [.string ⟨#[117, 114, 105]⟩, .int .i64 3, .bool false, .string uri, .slice none 0 0, .slice none 0 0]) := Lib.hid (own_lit (n := 1) (k := 6) (BK.new w2 _ #[.string ⟨#[117, 114, 105]⟩, .int .i64 3, .bool false, .string uri, .slice none 0 0, .slice none 0 0]) rfl HQ.out (by unfold maxLen; omega))
    replace HR := Lib.hid (HR.out.on hb)
    replace HQ := Lib.hid (Nat.le_trans HQ.out hb.size)
    replace HB := Lib.hid (HB.out.trans (hb.mono HB.out.size))
    clear hb
    generalize (w2.alloc (.cells #[.string ⟨#[117, 114, 105]⟩, .int .i64 3, .bool false, .string uri, .slice none 0 0, .slice none 0 0] 112)) = w3 at *
    generalize w2.heap.size = q at *
    refine (vNumber_any ver w3 HV.out (HP.out.on HB.out)).mono ?_
    rintro e w4 ⟨rfl, hb⟩
    replace HR := Lib.hid (HR.out.on hb)
    replace HQ := Lib.hid (Nat.le_trans HQ.out hb.size)
    replace HB := Lib.hid (HB.out.trans (hb.mono HB.out.size))
    replace HOWN := Lib.hid (own_on HOWN.out hb)
    clear hb
    go_wp2_with (at_builtin; refine wpList_append_lies _ rfl (.tmp 15) (.tmp 19) 120 rfl (w.heap.size + 1) 112 p0 _ 6 96 Tryz.underlying120 HP0.out HZ0.out HZ1.out HZ2.out rfl (by omega) (.slice (some ⟨q, 0, none⟩) 1 1) 1 [.string ⟨#[117, 114, 105]⟩, .int .i64 3, .bool false, .string uri, .slice none 0 0, .slice none 0 0] rfl (HOWN.out.alloc _) ⟨w4.heap.size, 0, none⟩ 1 1 [.string ⟨#[118, 101, 114, 115, 105, 111, 110]⟩, .int .i64 2, .bool false, .string (bs (numS ver)), .slice none 0 0, .slice none 0 0] rfl rfl (World.news_of_block (heap_alloc_new w4 _)) (by intro u hu; simp only [List.mem_cons, List.mem_nil_iff, or_false] at hu; rcases hu with h | h | h | h | h | h <;> subst h <;> rfl) (by omega) (by unfold maxLen; omega) (by omega) (Nat.le_trans HQ.out (by simp)) _ rfl ?_)
    intro g1 cp1 w4g hown hgrow hat hlt
    have hb := made_end (w := w4) (.cells #[.string ⟨#[118, 101, 114, 115, 105, 111, 110]⟩, .int .i64 2, .bool false, .string (bs (numS ver)), .slice none 0 0, .slice none 0 0] 112)
    have hrow : ∀ k, ((.slice (some ⟨q, 0, none⟩) 1 1) : Value).ownBlock = some k → w.heap.size + 1 ≤ k ∧ k < w4.heap.size := fun k hk => HOWN.out.lt k hk
    replace HR := Lib.hid ((HR.out.on hb).same (hgrow.block _ (HR.out.on hb).lt (fun e => by have := (hrow _ e.symm).1; omega)))
    replace HB := Lib.hid ((HB.out.trans (hb.mono HB.out.size)).grown hgrow (Nat.le_trans HB.out.size hb.size) (fun k hk => by have := (hrow k hk).1; omega))
    replace HQ := Lib.hid (Nat.le_trans HQ.out (Nat.le_trans hb.size hgrow.size))
    clear HOWN
    have HOWN := Lib.hid hown
    clear hown hb hgrow hat hlt hrow
    go_wp2_with fail
    have hC := all_D l w4g A cap HL.out (HE.out.on HB.out).er (HP.out.on HB.out) HO.out
    rw [HN.out] at hC
    refine hC.mono ?_
    clear hC
    rintro e wd ⟨v, rfl, hv, hb⟩
    obtain ⟨kd, id, xd, Ad, nd, cd, Bd, md, dd, rfl⟩ := VAL.shape hv
    have HVd := Lib.hid hv
    have HQ3 := Lib.hid HQ.out
    have H3 : Hid (∀ k, ((.slice (some ⟨g1, 0, none⟩) 2 cp1) : Value).ownBlock = some k → k < w4g.heap.size) := Lib.hid (fun k hk => (HOWN.out.lt k hk).2)
    replace HR := Lib.hid (HR.out.on hb)
    replace HQ := Lib.hid (Nat.le_trans HQ.out hb.size)
    replace HB := Lib.hid (HB.out.trans (hb.mono HB.out.size))
    replace HOWN := Lib.hid (own_on HOWN.out hb)
    clear hv hb
    go_wp2_with (at_builtin; refine wpList_append_lies _ rfl (.tmp 21) (.tmp 25) 120 rfl (w.heap.size + 1) 112 p0 _ 6 96 Tryz.underlying120 HP0.out HZ0.out HZ1.out HZ2.out rfl (by omega) (.slice (some ⟨g1, 0, none⟩) 2 cp1) 2 [.string ⟨#[117, 114, 105]⟩, .int .i64 3, .bool false, .string uri, .slice none 0 0, .slice none 0 0, .string ⟨#[118, 101, 114, 115, 105, 111, 110]⟩, .int .i64 2, .bool false, .string (bs (numS ver)), .slice none 0 0, .slice none 0 0] rfl (HOWN.out.alloc _) ⟨wd.heap.size, 0, none⟩ 1 1 [.string ⟨#[100, 105, 97, 103, 110, 111, 115, 116, 105, 99, 115]⟩, .int .i64 kd, .bool id, .string xd, .slice Ad nd cd, .slice Bd md dd] rfl rfl (World.news_of_block (heap_alloc_new wd _)) (by intro u hu; simp only [List.mem_cons, List.mem_nil_iff, or_false] at hu; rcases hu with h | h | h | h | h | h <;> subst h <;> rfl) (by omega) (by unfold maxLen; omega) (by omega) (Nat.le_trans HQ.out (by simp)) _ rfl ?_)
    intro g2 cp2 wdg hown hgrow hat hlt
    have hb := made_end (w := wd) (.cells #[.string ⟨#[100, 105, 97, 103, 110, 111, 115, 116, 105, 99, 115]⟩, .int .i64 kd, .bool id, .string xd, .slice Ad nd cd, .slice Bd md dd] 112)
    have hrow : ∀ k, ((.slice (some ⟨g1, 0, none⟩) 2 cp1) : Value).ownBlock = some k → w.heap.size + 1 ≤ k ∧ k < wd.heap.size := fun k hk => HOWN.out.lt k hk
    replace HVd := Lib.hid (VAL.grown (VAL.on HVd.out (fun b hb => hb.2) hb) hgrow (fun b hb' => ⟨Nat.lt_of_lt_of_le hb'.2 hb.size, fun e => by have := H3.out b e; have := hb'.1; omega⟩))
    have HQ4 := Lib.hid (Nat.le_trans hb.size hgrow.size)
    replace HR := Lib.hid ((HR.out.on hb).same (hgrow.block _ (HR.out.on hb).lt (fun e => by have := (hrow _ e.symm).1; omega)))
    replace HB := Lib.hid ((HB.out.trans (hb.mono HB.out.size)).grown hgrow (Nat.le_trans HB.out.size hb.size) (fun k hk => by have := (hrow k hk).1; omega))
    replace HQ := Lib.hid (Nat.le_trans HQ.out (Nat.le_trans hb.size hgrow.size))
    clear HOWN
    have HOWN := Lib.hid hown
    clear hown hb hgrow hat hlt hrow
    clear H3
    go_wp2_with fail
    replace HVd := Lib.hid (VAL.mono (S' := (zNew (w.heap.size + 1)).S wdg) (fun b hb => ⟨Nat.le_trans HQ3.out hb.1, Nat.lt_of_lt_of_le hb.2 HQ4.out⟩) HVd.out)
    refine (pObject_any (B := w.heap.size + 1) [(⟨#[117, 114, 105]⟩, txT uri), (⟨#[118, 101, 114, 115, 105, 111, 110]⟩, nbT ver), (⟨#[100, 105, 97, 103, 110, 111, 115, 116, 105, 99, 115]⟩, lsT (l.map Dg.tree))] wdg _ HQ.out (PSV_of_own HOWN.out (PRC.cons (p := (⟨#[117, 114, 105]⟩, txT uri)) (VAL.shut (by decide) (.inl rfl) (.inl rfl)) (PRC.cons (p := (⟨#[118, 101, 114, 115, 105, 111, 110]⟩, nbT ver)) (VAL.shut (by decide) (.inl rfl) (.inl rfl)) (PRC.cons (p := (⟨#[100, 105, 97, 103, 110, 111, 115, 116, 105, 99, 115]⟩, lsT (l.map Dg.tree))) HVd.out (PRC.nil _ _)))) rfl (fun b hb => HOWN.out.lt b hb)) (Nat.le_of_ble_eq_true rfl)).mono ?_
    rintro e wo ⟨v, rfl, hv, hb⟩
    clear HOWN
    obtain ⟨kzz, izz, xzz, Azz, nzz, czz, Bzz, mzz, dzz, rfl⟩ := VAL.shape hv
    have HVo := Lib.hid hv
    replace HR := Lib.hid (HR.out.on hb)
    replace HQ := Lib.hid (Nat.le_trans HQ.out hb.size)
    replace HB := Lib.hid (HB.out.trans (hb.mono HB.out.size))
    clear hv hb HVd
    have hg := HR.out
    have f0 := hg.fr 0
    have y0 := hg.c0
    have f1 := hg.fr 1
    have y1 := hg.c1
    have f2 := hg.fr 2
    have y2 := hg.c2
    have f3 := hg.fr 3
    have y3 := hg.c3
    have f4 := hg.fr 4
    have y4 := hg.c4
    have hres := hg.put (.int .i64 kzz) (.bool izz) (.string xzz) (.slice Azz nzz czz) (.slice Bzz mzz dzz)
    have r0 := hres.c0
    have r1 := hres.c1
    have r2 := hres.c2
    have r3 := hres.c3
    have r4 := hres.c4
    clear hres hg
    go_wp2
    exact bodyPost_ret (v := .agg #[.int .i64 kzz, .bool izz, .string xzz, .slice Azz nzz czz, .slice Bzz mzz dzz]) (by simp [results, Tryz.results47, go_sem, r0, r1, r2, r3, r4]) rfl ⟨_, rfl, five_New HVo.out (fun b hb => ⟨by have := hb.1; omega, hb.2, by have := hb.1; omega⟩), five_below HB.out w.heap.size _ _ _ _ _ (Nat.le_refl _)⟩
end Go.Proofs.YthndgekjccclnaaGreatDoor
