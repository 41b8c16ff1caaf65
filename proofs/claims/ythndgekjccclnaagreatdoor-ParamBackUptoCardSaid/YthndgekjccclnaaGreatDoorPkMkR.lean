/-
  Joined texts: MkRow.
-/
import Derived.Test.YthndgekjccclnaaGreatDoorPkRow
import Derived.Test.YthndgekjccclnaaGreatDoorPkMkH
import Derived.WideKeyArr2
import Derived.Lib.LaidTab
namespace Go.Proofs.YthndgekjccclnaaGreatDoor.rowkit
open Go.ChangeShapes Go.WideShapes Go.ChangeAt Go.RowKit Go.Deep Go.WideMaps Val
set_option linter.unusedVariables false
set_option linter.unusedSimpArgs false
theorem laid_tail {P : Program} {x : String × DataW Unit} {rest : List (String × DataW Unit)} {w : World} (h : laidMet P (x :: rest) w) : laidMet P rest w := by
  obtain ⟨ps, ⟨g, t, cs, fuel, p, q, -, -, -, -, hr, rfl⟩, hnd, hall⟩ := h
  exact ⟨q, hr, (List.nodup_append.1 hnd).2.1, fun b off hm => hall b off (List.mem_append_right _ hm)⟩
theorem ptab_head {W : World} {rest : List (String × DataW Unit)} (h : laidMet Tryz.prog (("internal/strconv.uint64pow10", Rows.laid_internal_strconv_uint64pow10) :: rest) W) : PTab W :=
  Lib.tabIs_of_head (g := 3) (t := 213) (e := 182) (n := 20) (by kernel_rfl) (by kernel_rfl) (by kernel_rfl) (by kernel_rfl) (by kernel_rfl) (by kernel_rfl) h
theorem arrKey2 : ArrKey Tryz.prog 70 3 2 := ⟨by kernel_rfl, by kernel_rfl, by kernel_rfl, by kernel_rfl⟩
/-- Two numbers that came in. -/
theorem arr2_in {H : Type} {enc : TypeId × Value → H} {W : World} {xs : Array Value} {d : DataW H} {ps : List MemPlace}
    (h : DataW.Trod enc Tryz.prog W 0 (fun _ => true) true 70 (.agg xs) d ps) (hn : xs.size = 2) :
    ∃ a b : Int, xs = #[.int .i64 a, .int .i64 b] ∧ I64 a ∧ I64 b := by
  obtain ⟨l⟩ := xs
  match l, hn with
  | [x, y], _ =>
    obtain ⟨fuel, hf⟩ := h
    have ht := arrKey2.hu
    have hce := arrKey2.one
    cases fuel with
    | zero => simp [DataW.trod] at hf
    | succ n =>
      unfold DataW.trod at hf
      rw [ht] at hf
      have r2 : List.range 2 = [0, 1] := rfl
      simp [r2, hce, Value.cells] at hf
      cases h0 : DataW.trod enc Tryz.prog W 0 (fun _ => true) true n 3 [x] with
      | none => simp [h0] at hf
      | some y0 =>
        cases h1 : DataW.trod enc Tryz.prog W 0 (fun _ => true) true n 3 [y] with
        | none => simp [h0, h1] at hf
        | some y1 =>
          obtain ⟨a, e0, _, w0⟩ := DataW.trod_int Tryz.underlying3 h0
          obtain ⟨b, e1, _, w1⟩ := DataW.trod_int Tryz.underlying3 h1
          simp at e0 e1
          subst e0 e1
          exact ⟨a, b, rfl, bounds_i64 w0, bounds_i64 w1⟩
theorem list2 {α : Type} {l : List α} (h : l.length = 2) : ∃ a b, l = [a, b] := by
  match l, h with
  | [a, b], _ => exact ⟨a, b, rfl⟩
theorem list3 {α : Type} {l : List α} (h : l.length = 3) : ∃ a b c, l = [a, b, c] := by
  match l, h with
  | [a, b, c], _ => exact ⟨a, b, c, rfl⟩
theorem list4 {α : Type} {l : List α} (h : l.length = 4) : ∃ a b c d, l = [a, b, c, d] := by
  match l, h with
  | [a, b, c, d], _ => exact ⟨a, b, c, d, rfl⟩
theorem list6 {α : Type} {l : List α} (h : l.length = 6) : ∃ a b c d e f, l = [a, b, c, d, e, f] := by
  match l, h with
  | [a, b, c, d, e, f], _ => exact ⟨a, b, c, d, e, f, rfl⟩
theorem ci : Tryz.prog.cellsOf 3 = 1 := by kernel_rfl
theorem cb : Tryz.prog.cellsOf 4 = 1 := by kernel_rfl
theorem cs : Tryz.prog.cellsOf 9 = 1 := by kernel_rfl
theorem cp : Tryz.prog.cellsOf 53 = 2 := by kernel_rfl
theorem cr : Tryz.prog.cellsOf 55 = 4 := by kernel_rfl
/-- A pair of numbers that came in. -/
theorem two_in {H : Type} {enc : TypeId × Value → H} {W : World} {T : TypeId} {f0 f1 : Field} (hU : Tryz.prog.underlying T = some (.struct #[f0, f1])) (h2 : Tryz.prog.cellsOf T = 2) (t0 : f0.type = 3) (t1 : f1.type = 3) (o0 : f0.offset = 0) (o1 : f1.offset = 1) {fuel : Nat} {cs : List Value} {x : DataW H × List MemPlace}
    (h : DataW.trod enc Tryz.prog W 0 (fun _ => true) true fuel T cs = some x) : ∃ a b : Int, cs = [.int .i64 a, .int .i64 b] ∧ I64 a ∧ I64 b := by
  obtain ⟨xs, n, -, rfl, hl, hlen, hf⟩ := DataW.trod_struct hU h
  obtain ⟨v0, v1, rfl⟩ := list2 (hl.trans h2)
  obtain ⟨y0, y1, rfl⟩ := list2 (l := xs) (hlen.trans rfl)
  have e0 := hf 0 f0 rfl
  have e1 := hf 1 f1 rfl
  rw [t0, o0, ci] at e0
  rw [t1, o1, ci] at e1
  obtain ⟨a, ea, -, wa⟩ := DataW.trod_int Tryz.underlying3 e0
  obtain ⟨b, eb, -, wb⟩ := DataW.trod_int Tryz.underlying3 e1
  simp at ea eb
  subst ea; subst eb
  exact ⟨a, b, rfl, bounds_i64 wa, bounds_i64 wb⟩
theorem pos_in {H : Type} {enc : TypeId × Value → H} {W : World} {fuel : Nat} {cs : List Value} {x : DataW H × List MemPlace} (h : DataW.trod enc Tryz.prog W 0 (fun _ => true) true fuel 53 cs = some x) : ∃ a b : Int, cs = [.int .i64 a, .int .i64 b] ∧ I64 a ∧ I64 b :=
  two_in Tryz.underlying53 cp rfl rfl rfl rfl h
theorem range_in {H : Type} {enc : TypeId × Value → H} {W : World} {fuel : Nat} {cs : List Value} {x : DataW H × List MemPlace} (h : DataW.trod enc Tryz.prog W 0 (fun _ => true) true fuel 55 cs = some x) :
    ∃ a b c d : Int, cs = [.int .i64 a, .int .i64 b, .int .i64 c, .int .i64 d] ∧ I64 a ∧ I64 b ∧ I64 c ∧ I64 d := by
  obtain ⟨xs, n, -, rfl, hl, hlen, hf⟩ := DataW.trod_struct Tryz.underlying55 h
  obtain ⟨v0, v1, v2, v3, rfl⟩ := list4 (hl.trans cr)
  obtain ⟨y0, y1, rfl⟩ := list2 (l := xs) (hlen.trans rfl)
  have e0 : DataW.trod enc Tryz.prog W 0 (fun _ => true) true n 53 (([v0, v1, v2, v3].drop 0).take (Tryz.prog.cellsOf 53)) = some y0 := hf 0 _ rfl
  have e1 : DataW.trod enc Tryz.prog W 0 (fun _ => true) true n 53 (([v0, v1, v2, v3].drop 2).take (Tryz.prog.cellsOf 53)) = some y1 := hf 1 _ rfl
  rw [cp] at e0 e1
  obtain ⟨a, b, ea, wa, wb⟩ := pos_in e0
  obtain ⟨c, d, ec, wc, wd⟩ := pos_in e1
  simp at ea ec
  obtain ⟨rfl, rfl⟩ := ea
  obtain ⟨rfl, rfl⟩ := ec
  exact ⟨a, b, c, d, rfl, wa, wb, wc, wd⟩
theorem diag_in {H : Type} {enc : TypeId × Value → H} {W : World} {fuel : Nat} {cs : List Value} {x : DataW H × List MemPlace} (h : DataW.trod enc Tryz.prog W 0 (fun _ => true) true fuel 123 cs = some x) :
    ∃ y : Dg, cs = y.enc ∧ y.ok ∧ y.s.size + 1 ≤ Rows.uptoBulk x.1 := by
  obtain ⟨xs, n, -, rfl, hl, hlen, hf⟩ := DataW.trod_struct Tryz.underlying123 h
  obtain ⟨v0, v1, v2, v3, v4, v5, rfl⟩ := list6 (hl.trans (by kernel_rfl))
  obtain ⟨y0, y1, y2, rfl⟩ := list3 (l := xs) (hlen.trans rfl)
  have e0 : DataW.trod enc Tryz.prog W 0 (fun _ => true) true n 55 (([v0, v1, v2, v3, v4, v5].drop 0).take (Tryz.prog.cellsOf 55)) = some y0 := hf 0 _ rfl
  have e1 : DataW.trod enc Tryz.prog W 0 (fun _ => true) true n 3 (([v0, v1, v2, v3, v4, v5].drop 4).take (Tryz.prog.cellsOf 3)) = some y1 := hf 1 _ rfl
  have e2 : DataW.trod enc Tryz.prog W 0 (fun _ => true) true n 9 (([v0, v1, v2, v3, v4, v5].drop 5).take (Tryz.prog.cellsOf 9)) = some y2 := hf 2 _ rfl
  rw [cr] at e0
  rw [ci] at e1
  rw [cs] at e2
  obtain ⟨a, b, c, d, ea, wa, wb, wc, wd⟩ := range_in e0
  obtain ⟨k, ek, xk, wk⟩ := DataW.trod_int Tryz.underlying3 e1
  obtain ⟨tx, et, xt, wt⟩ := DataW.trod_string Tryz.underlying9 e2
  simp at ea ek et
  obtain ⟨rfl, rfl, rfl, rfl⟩ := ea
  subst ek; subst et; subst xk; subst xt
  refine ⟨⟨a, b, c, d, k, tx⟩, rfl, ⟨wa, wb, wc, wd, bounds_i64 wk⟩, ?_⟩
  have : tx.data.toList.length = tx.size := Array.length_toList
  show tx.size + 1 ≤ _
  simp only [List.map_cons, List.map_nil, Rows.uptoBulk, Rows.uptoBulkAll]
  omega
set_option maxRecDepth 100000 in
/-- A slice of elements that came in: a row of them, each as f says. -/
theorem row_in {α : Type} [Inhabited α] {H : Type} {enc : TypeId × Value → H} {W : World} {T E : TypeId} {k : Nat} {en : α → List Value} {ok : α → DataW H → Prop} (hU : Tryz.prog.underlying T = some (.slice E)) (hk : Tryz.prog.cellsOf E = k) (h0k : 0 < k) (hlen : ∀ x, (en x).length = k)
    (hin : ∀ (fuel : Nat) (cs : List Value) (x : DataW H × List MemPlace), DataW.trod enc Tryz.prog W 0 (fun _ => true) true fuel E cs = some x → ∃ y : α, cs = en y ∧ ok y x.1) {a : Option Addr} {len cap : Nat} {d : DataW H} {ps : List MemPlace}
    (h : DataW.Trod enc Tryz.prog W 0 (fun _ => true) true T (.slice a len cap) d ps) : ∃ l : List α, l.length = len ∧ ER k en W (fun b => b < W.heap.size) a l ∧ ∃ D : Nat → DataW H, (∀ j (h : j < l.length), ok l[j] (D j)) ∧ (l ≠ [] → ∃ r, d = .slice ((List.range len).map D) r) := by
  obtain ⟨fuel, hf⟩ := h
  rcases open_slice hU hf with ⟨e, _⟩ | ⟨ad, len', cap', m2, n2, D, Pl, e, -, hl, -, hmm, hx2, hx⟩
  · simp [Value.cells] at e
    obtain ⟨rfl, rfl, rfl⟩ := e
    exact ⟨[], rfl, .inl rfl, fun _ => .nil, (fun j h => by simp at h), fun h => absurd rfl h⟩
  · simp [Value.cells] at e
    obtain ⟨rfl, rfl, rfl⟩ := e
    simp only [if_true] at hmm
    injection hx2 with hd hp
    obtain ⟨y, hy⟩ := choose_lt (n := len) (p := fun j (u : α) => (∃ b off, ad = ⟨b, off, none⟩ ∧ b < W.heap.size ∧ ∀ i v, (en u)[i]? = some v → W.cell? ⟨b, off + j * k + i, none⟩ = some v) ∧ ok u (D j)) (fun j hj => by
      obtain ⟨cs', hcs, htr⟩ := hx j (by omega)
      obtain ⟨cs0, hcs0, htr0⟩ := hx 0 (by omega)
      obtain ⟨u, rfl, hu⟩ := hin n2 cs' (D j, Pl j) htr
      obtain ⟨u0, rfl, -⟩ := hin n2 cs0 (D 0, Pl 0) htr0
      rw [hk] at hcs hcs0
      obtain ⟨-, -, hc⟩ := World.cells?_some hcs
      obtain ⟨-, -, hc0⟩ := World.cells?_some hcs0
      have hz := hc0 0 (by omega)
      rw [Nat.zero_mul] at hz
      rw [List.getElem?_eq_getElem (by rw [hlen]; exact h0k)] at hz
      obtain ⟨b, off, rfl⟩ : ∃ b off, ad = ⟨b, off, none⟩ := by
        obtain ⟨b, off, s⟩ := ad
        refine ⟨b, off, ?_⟩
        cases s with
        | none => rfl
        | some q =>
          simp only [Addr.add, if_true, World.cell?] at hz
          split at hz <;> simp at hz
      simp only [add_plain'] at hc hz
      have hlt := World.block_lt_of_cell? W _ hz
      refine ⟨u, ⟨b, off, rfl, hlt, fun i v hv => ?_⟩, hu⟩
      have hi : i < k := by
        rcases Nat.lt_or_ge i (en u).length with h | h
        · rw [hlen] at h; exact h
        · rw [List.getElem?_eq_none h] at hv; cases hv
      exact (hc i hi).trans hv)
    refine ⟨(List.range len).map y, by simp, ?_, D, (fun j h => ?_), fun _ => ⟨_, hd⟩⟩
    · by_cases h0 : len = 0
      · subst h0; exact .inl rfl
      · obtain ⟨⟨b, off, rfl, hb, -⟩, -⟩ := hy 0 (by omega)
        refine .inr ⟨b, off, rfl, hb, fun j hj i v hv => ?_⟩
        obtain ⟨⟨b', off', e', -, hh⟩, -⟩ := hy j (by rw [List.length_map, List.length_range] at hj; exact hj)
        have e1 : b = b' := congrArg Addr.block e'
        have e2 : off = off' := congrArg Addr.off e'
        subst e1; subst e2
        exact hh i v (by rw [List.getElem_map, List.getElem_range] at hv; exact hv)
    · rw [List.getElem_map, List.getElem_range]; exact (hy j (by rw [List.length_map, List.length_range] at h; exact h)).2
theorem bulk_row {H : Type} {D : Nat → DataW H} {n : Nat} {r : List (DataW H)} : (∀ j, j < n → Rows.uptoBulk (D j) ≤ Rows.uptoBulk (.slice ((List.range n).map D) r)) ∧ Rows.uptoBulkAll ((List.range n).map D) ≤ Rows.uptoBulk (.slice ((List.range n).map D) r) := by
  have h2 : Rows.uptoBulkAll ((List.range n).map D) ≤ Rows.uptoBulk (.slice ((List.range n).map D) r) := by simp only [Rows.uptoBulk]; omega
  exact ⟨fun j hj => Nat.le_trans (bulkAll_mem D n j hj) h2, h2⟩
instance : Inhabited Dg := ⟨⟨0, 0, 0, 0, 0, .empty⟩⟩
/-- the texts of some diagnostics, and so many -/
def dsum (l : List Dg) : Nat := (l.map fun x => x.s.size + 1).sum
theorem dsum_range (y : Nat → Dg) (f : Nat → Nat) (h : ∀ j, (y j).s.size + 1 ≤ f j) : True := trivial
theorem diags_at {H : Type} {enc : TypeId × Value → H} {W : World} {a : Option Addr} {len cap : Nat} {d : DataW H} {ps : List MemPlace} (h : DataW.Trod enc Tryz.prog W 0 (fun _ => true) true 69 (.slice a len cap) d ps) :
    ∃ l : List Dg, l.length = len ∧ ER 6 Dg.enc W (fun b => b < W.heap.size) a l ∧ (∀ x ∈ l, x.ok) ∧ (l.map fun x => x.s.size + 1).sum ≤ Rows.uptoBulk d := by
  obtain ⟨l, rfl, he, D, hok, hd⟩ := row_in (k := 6) (en := Dg.enc) (ok := fun (y : Dg) x => y.ok ∧ y.s.size + 1 ≤ Rows.uptoBulk x) Tryz.underlying69 (by kernel_rfl) (by decide) (fun _ => rfl) (fun fuel cs x hx => diag_in hx) h
  refine ⟨l, rfl, he, fun x hx => ?_, ?_⟩
  · obtain ⟨j, hj, rfl⟩ := List.getElem_of_mem hx
    exact (hok j hj).1
  · by_cases h0 : l = []
    · subst h0; simp
    · obtain ⟨r, rfl⟩ := hd h0
      refine Nat.le_trans ?_ (bulk_row (D := D) (n := l.length) (r := r)).2
      have key : ∀ (l : List Dg) (D : Nat → DataW H), (∀ j (h : j < l.length), l[j].s.size + 1 ≤ Rows.uptoBulk (D j)) → (l.map fun x => x.s.size + 1).sum ≤ Rows.uptoBulkAll ((List.range l.length).map D) := by
        intro l
        induction l with
        | nil => intro D _; simp
        | cons x l ih =>
          intro D h
          have h1 := ih (fun j => D (j + 1)) (fun j hj => h (j + 1) (by simpa using hj))
          have h2 := h 0 (by simp)
          rw [List.length_cons, List.range_succ_eq_map]
          simp only [List.map_cons, List.map_map, List.sum_cons, Rows.uptoBulkAll]
          simp only [List.getElem_cons_zero] at h2
          have h3 : (List.range l.length).map (D ∘ Nat.succ) = (List.range l.length).map (fun j => D (j + 1)) := rfl
          rw [h3]
          omega
      exact key l D (fun j hj => (hok j hj).2)
theorem sum_mem {l : List Dg} {x : Dg} (h : x ∈ l) : x.s.size ≤ (l.map fun x => x.s.size + 1).sum := by
  induction l with
  | nil => cases h
  | cons y l ih =>
    rw [List.map_cons, List.sum_cons]
    rcases List.mem_cons.1 h with rfl | h
    · omega
    · have := ih h; omega
theorem sum_len (l : List Dg) : l.length ≤ (l.map fun x => x.s.size + 1).sum := by
  induction l with
  | nil => simp
  | cons y l ih => rw [List.map_cons, List.sum_cons, List.length_cons]; omega
theorem lsT_bulk : ∀ (l : List VT), (lsT l).bulk = 1 + l.length + (l.map VT.bulk).sum := by
  intro l
  have key : ∀ (l : List VT), VT.sumTo (fun j => (l.getD j .leaf).bulk) l.length = (l.map VT.bulk).sum := by
    intro l
    have gen : ∀ n, n ≤ l.length → VT.sumTo (fun j => (l.getD j .leaf).bulk) n = ((l.take n).map VT.bulk).sum := by
      intro n
      induction n with
      | zero => intro _; simp [VT.sumTo]
      | succ n ih =>
        intro hn
        have h1 := ih (by omega)
        unfold VT.sumTo
        rw [h1, List.take_succ_eq_append_getElem (by omega), List.map_append, List.sum_append, List.getD_eq_getElem?_getD, List.getElem?_eq_getElem (by omega)]
        simp
    have := gen l.length (Nat.le_refl _)
    rwa [List.take_of_length_le (Nat.le_refl _)] at this
  show 1 + 0 + l.length + 0 + 0 + VT.sumTo (fun j => (l.getD j .leaf).bulk) l.length = _
  rw [key l]; omega
theorem diags_bulk : ∀ (l : List Dg), (∀ x ∈ l, x.ok) → ((l.map Dg.tree).map VT.bulk).sum ≤ 501 * (l.map fun x => x.s.size + 1).sum := by
  intro l
  induction l with
  | nil => intro _; simp
  | cons x l ih =>
    intro h
    have h1 := ih (fun y hy => h y (List.mem_cons_of_mem _ hy))
    obtain ⟨k1, k2, k3, k4, k5⟩ := h x List.mem_cons_self
    have h2 := diagT_bulk x.a x.b x.c x.d x.k x.s k1 k2 k3 k4 k5
    simp only [List.map_cons, List.sum_cons]
    show (diagT x.a x.b x.c x.d x.k x.s).bulk + _ ≤ _
    omega
theorem pub_bulk (uri : ByteArray) (ver : Int) (has : Bool) (l : List Dg) (hu : uri.size ≤ 1048576) (iv : I64 ver) (ho : ∀ x ∈ l, x.ok) (hs : (l.map fun x => x.s.size + 1).sum ≤ 1048576) : (pubT uri ver has (l.map Dg.tree)).bulk ≤ 1073741824 := by
  have h1 := lsT_bulk (l.map Dg.tree)
  have h2 := diags_bulk l ho
  have h3 := sum_len l
  have h4 := nbT_bulk ver iv
  rw [List.length_map] at h1
  unfold pubT
  cases has
  · show 1 + 0 + 2 + 2 + (3 + (11 + 0)) + (0 + (1 + uri.size + 0 + 0 + 0 + 0) + (lsT (l.map Dg.tree)).bulk) ≤ _
    omega
  · show 1 + 0 + 3 + 3 + (3 + (7 + (11 + 0))) + (0 + (1 + uri.size + 0 + 0 + 0 + 0) + (nbT ver).bulk + (lsT (l.map Dg.tree)).bulk) ≤ _
    omega
end Go.Proofs.YthndgekjccclnaaGreatDoor.rowkit
