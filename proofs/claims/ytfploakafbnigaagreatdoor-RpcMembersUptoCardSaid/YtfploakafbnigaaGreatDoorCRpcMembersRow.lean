/-
  RpcMembers: the row and the card: for every input the statement returns true (arguments of bulk at most 1048576); its arguments read as they did.
-/
import Derived.Test.YtfploakafbnigaaGreatDoorCRpcMemB
import Derived.Test.YtfploakafbnigaaGreatDoorCPkRow
import Derived.Test.YtfploakafbnigaaGreatDoorCRpcMsgRow
import Derived.Test.YtfploakafbnigaaGreatDoorCRpcTabRow
import Derived.ShutString
import Derived.ChangeMaps5
namespace Go.Proofs.YtfploakafbnigaaGreatDoor
open Go.RowKit Val
set_option linter.unusedVariables false
set_option linter.unusedSimpArgs false
theorem RpcMembers_walk (m : MT) (fr : Int) (t : VT) (v vt : Value) (w : World) (h : MSV (zLt w.heap.size) m w v) (ht : VAL w (fun x => x < w.heap.size) t vt) (hk : m.bulk ≤ 4000000) (hkt : t.bulk ≤ 1048576) (hfr : I64 fr) (hci : I64 m.code) (hM : ML w) (hP : PTab w) :
    Calls Tryz.prog 13 #[v, .int .i64 fr, vt] w (Made (.bool true) w) := by
  cases ho : MTok m
  · exact RpcMembers_no m fr t v vt w h ht hk hkt hfr hci hM hP ho
  · exact RpcMembers_yes m fr t v vt w h ht hk hkt hfr hci hM hP ho
end Go.Proofs.YtfploakafbnigaaGreatDoor
namespace Go.Proofs.YtfploakafbnigaaGreatDoor.rpcMembers
open Go.ChangeShapes Go.WideShapes Go.ChangeAt Go.RowKit Go.Proofs.YtfploakafbnigaaGreatDoor.rowkit
open Go.ChangeMaps (open_string shut_string)
set_option linter.unusedVariables false
set_option linter.unusedSimpArgs false
theorem reads (os : Os) {H : Type} (enc : TypeId × Value → H) : ∃ places, DataW.whole enc Tryz.prog ((World.laidAll Tryz.prog os Rows.rpcMembersUptoRow.laid).forCall (fun _ _ => 0) ⟨#[], #[.agg #[.int .i64 0, .int .i64 0, .bool false, .string .empty, .slice none 0 0, .slice none 0 0, .string .empty, .bool false, .int .i64 0, .bool false, .string .empty, .slice none 0 0, .slice none 0 0, .int .i64 0, .bool false, .string .empty, .slice none 0 0, .slice none 0 0, .int .i64 0, .string .empty], .int .i64 0, .agg #[.int .i64 0, .bool false, .string .empty, .slice none 0 0, .slice none 0 0]], []⟩).memory Tryz.f13.params.toList Rows.rpcMembersSpec.vars false #[Value.agg #[.int .i64 0, .int .i64 0, .bool false, .string .empty, .slice none 0 0, .slice none 0 0, .string .empty, .bool false, .int .i64 0, .bool false, .string .empty, .slice none 0 0, .slice none 0 0, .int .i64 0, .bool false, .string .empty, .slice none 0 0, .slice none 0 0, .int .i64 0, .string .empty], Value.int .i64 0, Value.agg #[.int .i64 0, .bool false, .string .empty, .slice none 0 0, .slice none 0 0]].toList 8 = some ([.agg [.lit (.int .i64 0), .agg [.lit (.int .i64 0), .lit (.bool false), .lit (.string []), .nil, .nil], .lit (.string []), .lit (.bool false), .agg [.lit (.int .i64 0), .lit (.bool false), .lit (.string []), .nil, .nil], .agg [.lit (.int .i64 0), .lit (.bool false), .lit (.string []), .nil, .nil], .lit (.int .i64 0), .lit (.string [])], .lit (.int .i64 0), .agg [.lit (.int .i64 0), .lit (.bool false), .lit (.string []), .nil, .nil]], [], places) :=
  ⟨[], by kernel_rfl⟩
theorem laid_met (os : Os) : laidMet Tryz.prog Rows.rpcMembersUptoRow.laid ((World.laidAll Tryz.prog os Rows.rpcMembersUptoRow.laid).forCall (fun _ _ => 0) ⟨#[], #[.agg #[.int .i64 0, .int .i64 0, .bool false, .string .empty, .slice none 0 0, .slice none 0 0, .string .empty, .bool false, .int .i64 0, .bool false, .string .empty, .slice none 0 0, .slice none 0 0, .int .i64 0, .bool false, .string .empty, .slice none 0 0, .slice none 0 0, .int .i64 0, .string .empty], .int .i64 0, .agg #[.int .i64 0, .bool false, .string .empty, .slice none 0 0, .slice none 0 0]], []⟩).memory :=
  laidMet_laidAll _ (by kernel_rfl) (by kernel_rfl)
set_option maxRecDepth 100000 in
set_option maxHeartbeats 1000000 in
theorem lifted (os : Os) (started : os.Started) (H : Type) (enc : TypeId × Value → H) (F : Stop.Interp) :
    ReturnsInHanded {} Tryz.checked os 13 .any ((Rows.OpenSpec.upto Rows.rpcMembersSpec).preRow enc Tryz.prog Tryz.f13 Rows.rpcMembersUptoRow.domain false Rows.rpcMembersUptoRow.laid) (((Rows.OpenSpec.upto Rows.rpcMembersSpec).at F).post enc Tryz.prog Tryz.f13 false true false false) := by
  obtain ⟨places, hx⟩ := reads os enc
  refine returnsInHanded_of_row (C := Tryz.checked) (s := Rows.OpenSpec.upto Rows.rpcMembersSpec) own started (by kernel_rfl) Tryz.func13
    (witness_row_atRef (enc := enc) (C := Tryz.checked) false (World.laidAll Tryz.prog os Rows.rpcMembersUptoRow.laid) #[.agg #[.int .i64 0, .int .i64 0, .bool false, .string .empty, .slice none 0 0, .slice none 0 0, .string .empty, .bool false, .int .i64 0, .bool false, .string .empty, .slice none 0 0, .slice none 0 0, .int .i64 0, .bool false, .string .empty, .slice none 0 0, .slice none 0 0, .int .i64 0, .string .empty], .int .i64 0, .agg #[.int .i64 0, .bool false, .string .empty, .slice none 0 0, .slice none 0 0]] (World.laidAll_os _ _ _) (by kernel_rfl) (by kernel_rfl) (by kernel_rfl)
      (OpenSpec.preRow_of_cond 8 hx (by kernel_rfl) (fun k hk => by cases hk; kernel_rfl) (by kernel_rfl) (laid_met os))) ?_
  intro W base args ds gs before hval0 hW _ hcond hsz0 hL hsh _
  have hM := ml hsh
  have hPT := ptab_head (laid_tail (laid_tail (hL)))
  have hsz : (DataW.weightsEach Tryz.prog (Tryz.f13.params.toList ++ Rows.rpcMembersSpec.plain.varTypes Tryz.prog) (ds ++ gs)).all (· ≤ reachBytes) = true := hsz0
  have hval : ∀ (j : Nat) t v, Tryz.f13.params[j]? = some t → args[j]? = some v → Value.okWide Tryz.prog W .any base t v := hval0
  have hW' := hW
  obtain ⟨p, q, hA0, hV, rfl, hfz, hnd⟩ := hW
  have hA : DataW.TrodAll enc Tryz.prog W 0 (fun _ => true) true Tryz.f13.params.toList args.toList ds p := hA0
  rw [Tryz.params13] at hA hval hsz
  obtain ⟨v0, vs0, d0, ds0, p0, q0, hargs, rfl, rfl, h0, r0⟩ := trodAll_cons hA
  obtain ⟨v1, vs1, d1, ds1, p1, q1, rfl, rfl, rfl, h1, r1⟩ := trodAll_cons r0
  obtain ⟨v2, vs2, d2, ds2, p2, q2, rfl, rfl, rfl, h2, r2⟩ := trodAll_cons r1
  obtain ⟨rfl, rfl, rfl⟩ := trodAll_nil r2
  obtain rfl : args = #[v0, v1, v2] := by cases args; simp_all
  obtain ⟨rfl, rfl⟩ := trodVars_none hV
  obtain ⟨xs0, rfl, hn0⟩ := okWide_struct Tryz.underlying46 (hval 0 46 v0 rfl rfl)
  have lt0 : ∀ x ∈ p0, x.block < W.heap.size := by obtain ⟨m, hm⟩ := h0; exact DataW.trod_lt m _ _ _ hm
  obtain ⟨m0, hx0, w0, c0⟩ := msg_at h0
  obtain ⟨a1, rfl, rfl, rfl, w1⟩ := open_int Tryz.underlying3 (hval 1 3 v1 rfl rfl) h1
  obtain ⟨xs2, rfl, hn2⟩ := okWide_struct Tryz.underlying25 (hval 2 25 v2 rfl rfl)
  have lt2 : ∀ x ∈ p2, x.block < W.heap.size := by obtain ⟨m, hm⟩ := h2; exact DataW.trod_lt m _ _ _ hm
  obtain ⟨t2, hx2, w2⟩ := value_at h2
  have hbulk : Rows.uptoBulkAll (([d0, _, d2] ++ [])) ≤ 1048576 := of_decide_eq_true (hcond _ rfl)
  simp only [List.append_nil, Rows.uptoBulkAll, Rows.uptoBulk] at hbulk
  clear hA0 hval0 hsz0 hsz
  refine (RpcMembers_walk m0 a1 t2 (.agg xs0) (.agg xs2) W hx0 hx2 (by omega) (by omega) (bounds_i64 w1) c0 hM hPT).mono fun e W' ⟨he, bel⟩ => ?_
  subst he
  exact ⟨_, rfl, _, _, _, [], _, [], hW', trodAll_mk1 (shut_bool Tryz.underlying4 _), (trodAll_cons_mk (Below.trod laidOut (by kernel_rfl) (of_decide_eq_true (by kernel_rfl)) h0 bel lt0) (trodAll_cons_mk (shut_int Tryz.underlying3 w1) (trodAll_cons_mk (Below.trod laidOut (by kernel_rfl) (of_decide_eq_true (by kernel_rfl)) h2 bel lt2) trodAll_mk0))), rfl, bel.frame _, fun h => by cases h⟩
theorem facts : joinedFacts Tryz.pinned.checked.prog 13 Tryz.f13 (Rows.OpenSpec.upto Rows.rpcMembersSpec).bare Rows.rpcMembersUptoRow = true := by kernel_rfl
theorem named : Tryz.pinned.checked.prog.funcNamed Rows.rpcMembersUptoRow.func = some 13 := by kernel_rfl
theorem said : Rows.RpcMembersUptoSaid :=
  OpenClaim.holds_of_cond 13 Tryz.f13 rfl rfl rfl rfl rfl rfl rfl ⟨rfl, rfl, rfl, rfl, rfl⟩ rfl rfl rfl rfl rfl named Tryz.func13 facts
    (of_decide_eq_true (by kernel_rfl)) (by unfold Func.isWrapper; first | (rw [if_pos (by decide +kernel)]; kernel_rfl) | (rw [if_neg (by decide +kernel)]; exact ⟨rfl, rfl⟩))
    (fun os started H enc _ F => by rw [OpenClaim.pre_eq_preRow]; exact lifted os started H enc F)
theorem plain (f : FuncId) (fn : Func) (hf : Tryz.pinned.checked.prog.funcNamed "colophon/colophonlaw12.RpcMembers" = some f) (hfn : Tryz.pinned.checked.prog.funcs[f]? = some fn) :
    true = Tryz.pinned.checked.prog.looks [] ∧ ∀ (j : Nat) t, fn.params[j]? = some t → Tryz.pinned.checked.prog.wantsStandIn t = false := by
  obtain rfl : f = 13 := Option.some.inj ((show Tryz.prog.funcNamed "colophon/colophonlaw12.RpcMembers" = some 13 by kernel_rfl).symm.trans hf) |>.symm
  obtain rfl : fn = Tryz.f13 := (Option.some.inj (Tryz.func13.symm.trans hfn)).symm
  refine ⟨by kernel_rfl, fun j t ht => ?_⟩
  rw [Tryz.params13] at ht
  have hm : t ∈ ([46, 3, 25] : List Nat) := by simpa using Array.mem_of_getElem? ht
  have hall : (([46, 3, 25] : List Nat).all fun u => !Tryz.prog.wantsStandIn u) = true := by kernel_rfl
  exact (show Tryz.prog.wantsStandIn t = false by simpa using List.all_eq_true.1 hall t hm)
theorem card : Rows.RpcMembersUptoCardSaid :=
  Claim7.holds_tied_plain_at .later [] _ _ _ _ said (fun _ h => by cases h) (by kernel_rfl) (fun _ h => by cases h) rpcMembersUpto_row_tie rfl ⟨rfl, rfl⟩ (by kernel_rfl) rfl plain (by kernel_rfl)
#print axioms card
end Go.Proofs.YtfploakafbnigaaGreatDoor.rpcMembers
