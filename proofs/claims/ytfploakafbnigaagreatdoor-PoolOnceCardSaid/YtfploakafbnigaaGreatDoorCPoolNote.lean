/-
  Layer 28, the walks: Note, New.
-/
import Derived.Test.YtfploakafbnigaaGreatDoorCPoolLay
namespace Go.Proofs.YtfploakafbnigaaGreatDoor
open Go.RowKit Val Pl YtfploakafbnigaaGreatDoorW.PrintLast
set_option linter.unusedVariables false
set_option linter.unusedSimpArgs false
set_option maxRecDepth 100000 in
set_option maxHeartbeats 4000000 in
theorem Note_i {B : Nat} {s : Pst Int} {h : PH} (nm : ByteArray) (x : Int) (w : World) (p : PMi B s h w) : Calls Tryz.prog 43 #[.pointer (some ⟨h.pb, 0, none⟩), .string nm, (Value.int .i64) x] w (PO (Value.int .i64) 132 86 136 B ((s.note nm x).2) h (.int .i64 (s.note nm x).1) w) := by
  have HP := Lib.hid p
  have hle := p.le
  obtain ⟨pb, hpb⟩ : ∃ b, h.pb = b := ⟨_, rfl⟩
  have HPB := Lib.hid hpb
  rw [hpb]
  clear p hpb
  cases ho : s.noteAt nm with
  | some i =>
    have hE : Pst.note s nm x = (0, ⟨s.q.modify i (fun j => { j with x := x }), s.us⟩) := by unfold Pst.note; rw [ho]
    have HO := Lib.hid ho
    rw [hE]
    clear hE
    dsimp only
    obtain ⟨j, hj, -⟩ := Pst.findIdx_get ho
    have hi := (List.getElem?_eq_some_iff.1 hj).1
    clear ho
    go_enter Tryz.func43, Tryz.ntmps43
    go_wp2_with fail
    rw [← HPB.out]
    refine (none_i w HP.out).mono ?_
    rintro e w2 ⟨rfl, rfl⟩
    go_wp2_with fail
    refine (note_i nm w HP.out).mono ?_
    rintro e w2 ⟨rfl, hb⟩
    rw [HO.out]
    have hx : ix (some i) = (i : Int) := rfl
    rw [hx]
    clear hx
    replace HP := Lib.hid (HP.out.on hb)
    have HB := Lib.hid hb
    clear hb
    obtain ⟨A, cap, hqv, hA⟩ := own_row_i HP.out.q
    obtain ⟨g, rfl, -, -, hc⟩ := hA (by intro e; rw [e] at hi; simp at hi)
    have HQV := Lib.hid hqv
    have c0 : w2.cell? ⟨h.pb, 0, none⟩ = some (.slice (some ⟨g, 0, none⟩) s.q.length cap) := by rw [← HQV.out]; exact HP.out.box.c 0 rfl
    have c7 := hc i j hj 7 _ rfl
    have f7 := own_fr (by rw [← HQV.out]; exact HP.out.q : w2.ownsRow B 132 9 (.slice (some ⟨g, 0, none⟩) s.q.length cap) s.q.length (jcs (Value.int .i64) s.q)) (i * 9 + 7)
    clear hc hj hqv hA
    go_wp2
    go_ret
    have hr := HP.out.setx HQV.out hi x
    exact ⟨h, rfl, rfl, hr.1, (Mv.of HB.out).trans hr.2⟩
  | none =>
    have hE : Pst.note s nm x = s.lay ⟨false, ⟨0, ⟨#[]⟩⟩, nm, x, false⟩ := by unfold Pst.note; rw [ho]
    have HO := Lib.hid ho
    rw [hE]
    clear ho hE
    go_enter Tryz.func43, Tryz.ntmps43
    go_wp2_with fail
    rw [← HPB.out]
    refine (none_i w HP.out).mono ?_
    rintro e w2 ⟨rfl, rfl⟩
    go_wp2_with fail
    refine (note_i nm w HP.out).mono ?_
    rintro e w2 ⟨rfl, hb⟩
    rw [HO.out]
    have hx : ix none = (-1 : Int) := rfl
    rw [hx]
    clear hx
    replace HP := Lib.hid (HP.out.on hb)
    have HB := Lib.hid hb
    clear hb
    go_wp2_with fail
    refine (lay_i ⟨false, ⟨0, ⟨#[]⟩⟩, nm, x, false⟩ w2 HP.out ⟨by show I64 0; unfold I64; omega, by show ByteArray.size ⟨#[]⟩ ≤ 1000; decide⟩).mono ?_
    rintro e w5 ⟨h', rfl, e2, p', m⟩
    go_wp2
    go_ret
    exact ⟨h', rfl, e2, p', (Mv.of HB.out).trans m⟩
set_option maxRecDepth 100000 in
set_option maxHeartbeats 4000000 in
theorem New_i (n : Nat) (m : Int) (w : World) (hm : m = (n : Int)) (hn : 1 ≤ n ∧ n ≤ 4) (hM : ML w) (B : Nat) (hB : B ≤ w.heap.size) (hlo : 1 < B) : Calls Tryz.prog 39 #[.int .i64 m] w fun e w' => ∃ h, e = .returned (.tuple #[.pointer (some ⟨h.pb, 0, none⟩), .int .i64 0]) ∧ PMi B (Pst.new n) h w' ∧ Below w.heap.size w w' ∧ ∀ b, h.S b → w.heap.size ≤ b := by
  obtain ⟨hn1, hn4⟩ := hn
  have e : n = 1 ∨ n = 2 ∨ n = 3 ∨ n = 4 := by omega
  have hS : ∀ b, (⟨w.heap.size + 1, w.heap.size, .slice none 0 0, List.replicate n none⟩ : PH).S b → w.heap.size ≤ b := fun b hb => by
    rcases hb with h1 | h1 | h1 | h1
    · have h2 : b = w.heap.size + 1 := h1; omega
    · have h2 : b = w.heap.size := h1; omega
    · cases h1
    · rw [List.mem_replicate] at h1; cases h1.2
  have HS := Lib.hid hS
  have HM := Lib.hid hM
  clear hS hM
  rcases e with rfl | rfl | rfl | rfl
  · simp at hm
    subst hm
    have hmk : ∀ W : World, (Instr.makeSlice 84 (.int .i64 1) (.int .i64 1)).run Tryz.prog W = .ok (.slice (some ⟨W.heap.size, 0, none⟩) 1 1) (W.alloc (.cells #[.pointer none] 136)) := fun _ => by kernel_rfl
    go_enter Tryz.func39, Tryz.ntmps39
    go_wp2
    go_ret2
    exact ⟨⟨w.heap.size + 1, w.heap.size, .slice none 0 0, List.replicate 1 none⟩, rfl, PM.new w ⟨hn1, hn4⟩ HM.out hB hlo (al2_0 w _ _) (al2_1 w _ _) (al2_below w _ _), al2_below w _ _, HS.out⟩
  · simp at hm
    subst hm
    have hmk : ∀ W : World, (Instr.makeSlice 84 (.int .i64 2) (.int .i64 2)).run Tryz.prog W = .ok (.slice (some ⟨W.heap.size, 0, none⟩) 2 2) (W.alloc (.cells #[.pointer none, .pointer none] 136)) := fun _ => by kernel_rfl
    go_enter Tryz.func39, Tryz.ntmps39
    go_wp2
    go_ret2
    exact ⟨⟨w.heap.size + 1, w.heap.size, .slice none 0 0, List.replicate 2 none⟩, rfl, PM.new w ⟨hn1, hn4⟩ HM.out hB hlo (al2_0 w _ _) (al2_1 w _ _) (al2_below w _ _), al2_below w _ _, HS.out⟩
  · simp at hm
    subst hm
    have hmk : ∀ W : World, (Instr.makeSlice 84 (.int .i64 3) (.int .i64 3)).run Tryz.prog W = .ok (.slice (some ⟨W.heap.size, 0, none⟩) 3 3) (W.alloc (.cells #[.pointer none, .pointer none, .pointer none] 136)) := fun _ => by kernel_rfl
    go_enter Tryz.func39, Tryz.ntmps39
    go_wp2
    go_ret2
    exact ⟨⟨w.heap.size + 1, w.heap.size, .slice none 0 0, List.replicate 3 none⟩, rfl, PM.new w ⟨hn1, hn4⟩ HM.out hB hlo (al2_0 w _ _) (al2_1 w _ _) (al2_below w _ _), al2_below w _ _, HS.out⟩
  · simp at hm
    subst hm
    have hmk : ∀ W : World, (Instr.makeSlice 84 (.int .i64 4) (.int .i64 4)).run Tryz.prog W = .ok (.slice (some ⟨W.heap.size, 0, none⟩) 4 4) (W.alloc (.cells #[.pointer none, .pointer none, .pointer none, .pointer none] 136)) := fun _ => by kernel_rfl
    go_enter Tryz.func39, Tryz.ntmps39
    go_wp2
    go_ret2
    exact ⟨⟨w.heap.size + 1, w.heap.size, .slice none 0 0, List.replicate 4 none⟩, rfl, PM.new w ⟨hn1, hn4⟩ HM.out hB hlo (al2_0 w _ _) (al2_1 w _ _) (al2_below w _ _), al2_below w _ _, HS.out⟩
set_option maxRecDepth 100000 in
set_option maxHeartbeats 4000000 in
theorem Note_s {B : Nat} {s : Pst ByteArray} {h : PH} (nm : ByteArray) (x : ByteArray) (w : World) (p : PMs B s h w) : Calls Tryz.prog 114 #[.pointer (some ⟨h.pb, 0, none⟩), .string nm, Value.string x] w (PO Value.string 203 200 204 B ((s.note nm x).2) h (.int .i64 (s.note nm x).1) w) := by
  have HP := Lib.hid p
  have hle := p.le
  obtain ⟨pb, hpb⟩ : ∃ b, h.pb = b := ⟨_, rfl⟩
  have HPB := Lib.hid hpb
  rw [hpb]
  clear p hpb
  cases ho : s.noteAt nm with
  | some i =>
    have hE : Pst.note s nm x = (0, ⟨s.q.modify i (fun j => { j with x := x }), s.us⟩) := by unfold Pst.note; rw [ho]
    have HO := Lib.hid ho
    rw [hE]
    clear hE
    dsimp only
    obtain ⟨j, hj, -⟩ := Pst.findIdx_get ho
    have hi := (List.getElem?_eq_some_iff.1 hj).1
    clear ho
    go_enter Tryz.func114, Tryz.ntmps114
    go_wp2_with fail
    rw [← HPB.out]
    refine (none_s w HP.out).mono ?_
    rintro e w2 ⟨rfl, rfl⟩
    go_wp2_with fail
    refine (note_s nm w HP.out).mono ?_
    rintro e w2 ⟨rfl, hb⟩
    rw [HO.out]
    have hx : ix (some i) = (i : Int) := rfl
    rw [hx]
    clear hx
    replace HP := Lib.hid (HP.out.on hb)
    have HB := Lib.hid hb
    clear hb
    obtain ⟨A, cap, hqv, hA⟩ := own_row_s HP.out.q
    obtain ⟨g, rfl, -, -, hc⟩ := hA (by intro e; rw [e] at hi; simp at hi)
    have HQV := Lib.hid hqv
    have c0 : w2.cell? ⟨h.pb, 0, none⟩ = some (.slice (some ⟨g, 0, none⟩) s.q.length cap) := by rw [← HQV.out]; exact HP.out.box.c 0 rfl
    have c7 := hc i j hj 7 _ rfl
    have f7 := own_fr (by rw [← HQV.out]; exact HP.out.q : w2.ownsRow B 203 9 (.slice (some ⟨g, 0, none⟩) s.q.length cap) s.q.length (jcs Value.string s.q)) (i * 9 + 7)
    clear hc hj hqv hA
    go_wp2
    go_ret
    have hr := HP.out.setx HQV.out hi x
    exact ⟨h, rfl, rfl, hr.1, (Mv.of HB.out).trans hr.2⟩
  | none =>
    have hE : Pst.note s nm x = s.lay ⟨false, ⟨0, ⟨#[]⟩⟩, nm, x, false⟩ := by unfold Pst.note; rw [ho]
    have HO := Lib.hid ho
    rw [hE]
    clear ho hE
    go_enter Tryz.func114, Tryz.ntmps114
    go_wp2_with fail
    rw [← HPB.out]
    refine (none_s w HP.out).mono ?_
    rintro e w2 ⟨rfl, rfl⟩
    go_wp2_with fail
    refine (note_s nm w HP.out).mono ?_
    rintro e w2 ⟨rfl, hb⟩
    rw [HO.out]
    have hx : ix none = (-1 : Int) := rfl
    rw [hx]
    clear hx
    replace HP := Lib.hid (HP.out.on hb)
    have HB := Lib.hid hb
    clear hb
    go_wp2_with fail
    refine (lay_s ⟨false, ⟨0, ⟨#[]⟩⟩, nm, x, false⟩ w2 HP.out ⟨by show I64 0; unfold I64; omega, by show ByteArray.size ⟨#[]⟩ ≤ 1000; decide⟩).mono ?_
    rintro e w5 ⟨h', rfl, e2, p', m⟩
    go_wp2
    go_ret
    exact ⟨h', rfl, e2, p', (Mv.of HB.out).trans m⟩
set_option maxRecDepth 100000 in
set_option maxHeartbeats 4000000 in
theorem New_s (n : Nat) (m : Int) (w : World) (hm : m = (n : Int)) (hn : 1 ≤ n ∧ n ≤ 4) (hM : ML w) (B : Nat) (hB : B ≤ w.heap.size) (hlo : 1 < B) : Calls Tryz.prog 112 #[.int .i64 m] w fun e w' => ∃ h, e = .returned (.tuple #[.pointer (some ⟨h.pb, 0, none⟩), .int .i64 0]) ∧ PMs B (Pst.new n) h w' ∧ Below w.heap.size w w' ∧ ∀ b, h.S b → w.heap.size ≤ b := by
  obtain ⟨hn1, hn4⟩ := hn
  have e : n = 1 ∨ n = 2 ∨ n = 3 ∨ n = 4 := by omega
  have hS : ∀ b, (⟨w.heap.size + 1, w.heap.size, .slice none 0 0, List.replicate n none⟩ : PH).S b → w.heap.size ≤ b := fun b hb => by
    rcases hb with h1 | h1 | h1 | h1
    · have h2 : b = w.heap.size + 1 := h1; omega
    · have h2 : b = w.heap.size := h1; omega
    · cases h1
    · rw [List.mem_replicate] at h1; cases h1.2
  have HS := Lib.hid hS
  have HM := Lib.hid hM
  clear hS hM
  rcases e with rfl | rfl | rfl | rfl
  · simp at hm
    subst hm
    have hmk : ∀ W : World, (Instr.makeSlice 197 (.int .i64 1) (.int .i64 1)).run Tryz.prog W = .ok (.slice (some ⟨W.heap.size, 0, none⟩) 1 1) (W.alloc (.cells #[.pointer none] 204)) := fun _ => by kernel_rfl
    go_enter Tryz.func112, Tryz.ntmps112
    go_wp2
    go_ret2
    exact ⟨⟨w.heap.size + 1, w.heap.size, .slice none 0 0, List.replicate 1 none⟩, rfl, PM.new w ⟨hn1, hn4⟩ HM.out hB hlo (al2_0 w _ _) (al2_1 w _ _) (al2_below w _ _), al2_below w _ _, HS.out⟩
  · simp at hm
    subst hm
    have hmk : ∀ W : World, (Instr.makeSlice 197 (.int .i64 2) (.int .i64 2)).run Tryz.prog W = .ok (.slice (some ⟨W.heap.size, 0, none⟩) 2 2) (W.alloc (.cells #[.pointer none, .pointer none] 204)) := fun _ => by kernel_rfl
    go_enter Tryz.func112, Tryz.ntmps112
    go_wp2
    go_ret2
    exact ⟨⟨w.heap.size + 1, w.heap.size, .slice none 0 0, List.replicate 2 none⟩, rfl, PM.new w ⟨hn1, hn4⟩ HM.out hB hlo (al2_0 w _ _) (al2_1 w _ _) (al2_below w _ _), al2_below w _ _, HS.out⟩
  · simp at hm
    subst hm
    have hmk : ∀ W : World, (Instr.makeSlice 197 (.int .i64 3) (.int .i64 3)).run Tryz.prog W = .ok (.slice (some ⟨W.heap.size, 0, none⟩) 3 3) (W.alloc (.cells #[.pointer none, .pointer none, .pointer none] 204)) := fun _ => by kernel_rfl
    go_enter Tryz.func112, Tryz.ntmps112
    go_wp2
    go_ret2
    exact ⟨⟨w.heap.size + 1, w.heap.size, .slice none 0 0, List.replicate 3 none⟩, rfl, PM.new w ⟨hn1, hn4⟩ HM.out hB hlo (al2_0 w _ _) (al2_1 w _ _) (al2_below w _ _), al2_below w _ _, HS.out⟩
  · simp at hm
    subst hm
    have hmk : ∀ W : World, (Instr.makeSlice 197 (.int .i64 4) (.int .i64 4)).run Tryz.prog W = .ok (.slice (some ⟨W.heap.size, 0, none⟩) 4 4) (W.alloc (.cells #[.pointer none, .pointer none, .pointer none, .pointer none] 204)) := fun _ => by kernel_rfl
    go_enter Tryz.func112, Tryz.ntmps112
    go_wp2
    go_ret2
    exact ⟨⟨w.heap.size + 1, w.heap.size, .slice none 0 0, List.replicate 4 none⟩, rfl, PM.new w ⟨hn1, hn4⟩ HM.out hB hlo (al2_0 w _ _) (al2_1 w _ _) (al2_below w _ _), al2_below w _ _, HS.out⟩
end Go.Proofs.YtfploakafbnigaaGreatDoor
