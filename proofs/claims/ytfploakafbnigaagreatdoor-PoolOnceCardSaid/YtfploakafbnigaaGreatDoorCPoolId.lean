/-
  Layer 28, the walks: the law's id.
-/
import Derived.Test.YtfploakafbnigaaGreatDoorCPoolMem
import Derived.Deep.RegionWith
import Derived.Lib.SlBytesConst
import Derived.WalkSpells
namespace Go.Proofs.YtfploakafbnigaaGreatDoor
open Go.RowKit Val Pl
set_option linter.unusedVariables false
set_option linter.unusedSimpArgs false
set_option maxRecDepth 100000 in
set_option maxHeartbeats 4000000 in
theorem leading_any (n : Int) (w : World) : Calls Tryz.prog 106 #[.int .i64 n] w fun e w' => e = .returned (.int .i64 (if n < 10 then 1 else 0)) ∧ w = w' := by
  by_cases h : n < 10
  · rw [if_pos h]
    go_enter Tryz.func106, Tryz.ntmps106
    go_wp2
    go_ret
    exact ⟨rfl, rfl⟩
  · rw [if_neg h]
    go_enter Tryz.func106, Tryz.ntmps106
    go_wp2
    go_ret
    exact ⟨rfl, rfl⟩
theorem idX : ∀ n : Fin 100, IntKind.u8.wrap (IntKind.i64.wrap (48 + (IntKind.i64.wrap ((n.val : Int).tdiv 10)).tmod 10)) = ((UInt8.ofNat (48 + n.val / 10)).toNat : Int) := by decide +kernel
theorem idY : ∀ n : Fin 100, IntKind.u8.wrap (IntKind.i64.wrap (48 + (n.val : Int).tmod 10)) = ((UInt8.ofNat (48 + n.val % 10)).toNat : Int) := by decide +kernel
theorem idE1 : ∀ n : Fin 100, n.val < 10 → (ByteArray.mk #[UInt8.ofNat (48 + n.val / 10), UInt8.ofNat (48 + n.val % 10)]).extract 1 2 = idT n.val := by decide +kernel
theorem idE0 : ∀ n : Fin 100, ¬ n.val < 10 → (ByteArray.mk #[UInt8.ofNat (48 + n.val / 10), UInt8.ofNat (48 + n.val % 10)]).extract 0 2 = idT n.val := by decide +kernel
def two8 (n : Nat) : ByteArray := ⟨#[UInt8.ofNat (48 + n / 10), UInt8.ofNat (48 + n % 10)]⟩
set_option maxRecDepth 100000 in
set_option maxHeartbeats 4000000 in
theorem id_any (n : Nat) (m : Int) (w : World) (hm : m = (n : Int)) (hn : n < 100) : Calls Tryz.prog 42 #[.int .i64 m] w (Made (.agg (LId.cells (numI n)).toArray) w) := by
  have hX := idX ⟨n, hn⟩
  have hY := idY ⟨n, hn⟩
  dsimp only at hX hY
  rw [← hm] at hX hY
  have hcv := fun (W : World) (h0 : W.cell? ⟨w.heap.size + 1, 0, none⟩ = some (.int .u8 ((UInt8.ofNat (48 + n / 10)).toNat : Int))) (h1 : W.cell? ⟨w.heap.size + 1, 1, none⟩ = some (.int .u8 ((UInt8.ofNat (48 + n % 10)).toNat : Int))) =>
    run_convert_bytes_back (P := Tryz.prog) W 67 9 5 ⟨w.heap.size + 1, 0, none⟩ 2 [UInt8.ofNat (48 + n / 10), UInt8.ofNat (48 + n % 10)] Tryz.underlying67 Tryz.underlying5 Tryz.underlying9 (fun j hj => by
      match j, hj with
      | 0, _ => exact h0
      | 1, _ => exact h1)
  have hcv2 : (convert 67 9 (.slice (some ⟨w.heap.size + 1, 0, none⟩) 2 2)).run Tryz.prog ((w.alloc (.cells #[.int .i64 0, .bool false, .string ⟨#[]⟩, .slice none 0 0, .slice none 0 0] 25)).alloc (.cells #[.int .u8 (IntKind.u8.wrap (IntKind.i64.wrap (48 + (IntKind.i64.wrap (m.tdiv 10)).tmod 10))), .int .u8 (IntKind.u8.wrap (IntKind.i64.wrap (48 + m.tmod 10)))] 5)).drew = .ok (.string (two8 n)) ((w.alloc (.cells #[.int .i64 0, .bool false, .string ⟨#[]⟩, .slice none 0 0, .slice none 0 0] 25)).alloc (.cells #[.int .u8 (IntKind.u8.wrap (IntKind.i64.wrap (48 + (IntKind.i64.wrap (m.tdiv 10)).tmod 10))), .int .u8 (IntKind.u8.wrap (IntKind.i64.wrap (48 + m.tmod 10)))] 5)).drew := by
    refine hcv _ ?_ ?_
    · rw [hX, hY]; exact BK.c (al2_1 w _ _) 0 rfl
    · rw [hX, hY]; exact BK.c (al2_1 w _ _) 1 rfl
  have hsz : (two8 n).size = 2 := rfl
  have HE1 := Lib.hid (idE1 ⟨n, hn⟩)
  have HE0 := Lib.hid (idE0 ⟨n, hn⟩)
  clear hX hY hcv
  have HN := Lib.hid hm
  by_cases h10 : n < 10
  · have HL := Lib.hid (fun W => show Calls Tryz.prog 106 #[.int .i64 m] W fun e w' => e = .returned (.int .i64 1) ∧ W = w' from by
      have := leading_any m W; rwa [if_pos (by omega)] at this)
    have HT : Hid ((two8 n).extract 1 2 = idT n) := Lib.hid (HE1.out h10)
    generalize two8 n = s2 at *
    clear hm h10 HE1 HE0
    go_enter Tryz.func42, Tryz.ntmps42
    go_wp2_with fail
    go_region_with (go_at_call 106; refine (HL.out _).mono ?_; rintro e w' ⟨rfl, rfl⟩)
    all_goals
      go_wp2
      exact bodyPost_ret (results_row1 Tryz.results42 _ _ w.heap.size 25 _ _ rfl (al2_0 w _ _) Tryz.underlying25 rfl (by kernel_rfl)) rfl ⟨by rw [HT.out]; rfl, (al2_below w _ _).drew⟩
  · have HL := Lib.hid (fun W => show Calls Tryz.prog 106 #[.int .i64 m] W fun e w' => e = .returned (.int .i64 0) ∧ W = w' from by
      have := leading_any m W; rwa [if_neg (by omega)] at this)
    have HT : Hid ((two8 n).extract 0 2 = idT n) := Lib.hid (HE0.out h10)
    generalize two8 n = s2 at *
    clear hm h10 HE1 HE0
    go_enter Tryz.func42, Tryz.ntmps42
    go_wp2_with fail
    go_region_with (go_at_call 106; refine (HL.out _).mono ?_; rintro e w' ⟨rfl, rfl⟩)
    all_goals
      go_wp2
      exact bodyPost_ret (results_row1 Tryz.results42 _ _ w.heap.size 25 _ _ rfl (al2_0 w _ _) Tryz.underlying25 rfl (by kernel_rfl)) rfl ⟨by rw [HT.out]; rfl, (al2_below w _ _).drew⟩
/-- 'string([]byte{byte(m)})' -/
theorem conv1 (w : World) (x : Int) (m : Nat) (hx : x = (m : Int)) (hm : m < 256) : (convert 67 9 (.slice (some ⟨w.heap.size, 0, none⟩) 1 1)).run Tryz.prog (w.alloc (.cells #[.int .u8 x] 5)) = .ok (.string ⟨#[UInt8.ofNat m]⟩) (w.alloc (.cells #[.int .u8 x] 5)) :=
  run_convert_bytes_back (P := Tryz.prog) _ 67 9 5 ⟨w.heap.size, 0, none⟩ 1 [UInt8.ofNat m] Tryz.underlying67 Tryz.underlying5 Tryz.underlying9 (fun j hj => by
    match j, hj with
    | 0, _ =>
      have e : x = ((UInt8.ofNat m).toNat : Int) := by rw [hx]; simp; omega
      rw [e]; exact BK.c (BK.new w _ _) 0 rfl)
end Go.Proofs.YtfploakafbnigaaGreatDoor
