/-
  Joined texts: MkRow2.
-/
import Derived.Test.YthndgekjccclnaaGreatDoorPkMkR
import Derived.Test.YthndgekjccclnaaGreatDoorPkMkK
import Derived.Test.YthndgekjccclnaaGreatDoorPkMkL
import Derived.Test.YthndgekjccclnaaGreatDoorPkMkM
namespace Go.Proofs.YthndgekjccclnaaGreatDoor.rowkit
open Go.ChangeShapes Go.WideShapes Go.ChangeAt Go.RowKit Go.Deep Go.WideMaps Val
set_option linter.unusedVariables false
set_option linter.unusedSimpArgs false
instance : Inhabited Fd := ⟨⟨0, 0⟩⟩
instance : Inhabited SY := ⟨.leaf⟩
theorem range_at {H : Type} {enc : TypeId × Value → H} {W : World} {xs : Array Value} {d : DataW H} {ps : List MemPlace} (h : DataW.Trod enc Tryz.prog W 0 (fun _ => true) true 55 (.agg xs) d ps) :
    ∃ a b c d : Int, xs = #[.int .i64 a, .int .i64 b, .int .i64 c, .int .i64 d] ∧ I64 a ∧ I64 b ∧ I64 c ∧ I64 d := by
  obtain ⟨fuel, hf⟩ := h
  obtain ⟨a, b, c, d, e, wa, wb, wc, wd⟩ := range_in hf
  refine ⟨a, b, c, d, ?_, wa, wb, wc, wd⟩
  apply Array.ext'
  simpa [Value.cells] using e
theorem fold_in {H : Type} {enc : TypeId × Value → H} {W : World} {fuel : Nat} {cs : List Value} {x : DataW H × List MemPlace} (h : DataW.trod enc Tryz.prog W 0 (fun _ => true) true fuel 76 cs = some x) :
    ∃ y : Fd, cs = y.enc ∧ y.ok ∧ 1 ≤ Rows.uptoBulk x.1 := by
  obtain ⟨a, b, e, wa, wb⟩ := two_in Tryz.underlying76 (by kernel_rfl) rfl rfl rfl rfl h
  obtain ⟨xs, n, -, rfl, -⟩ := DataW.trod_struct Tryz.underlying76 h
  exact ⟨⟨a, b⟩, e, ⟨wa, wb⟩, by simp only [Rows.uptoBulk]; omega⟩
theorem folds_at {H : Type} {enc : TypeId × Value → H} {W : World} {a : Option Addr} {len cap : Nat} {d : DataW H} {ps : List MemPlace} (h : DataW.Trod enc Tryz.prog W 0 (fun _ => true) true 63 (.slice a len cap) d ps) :
    ∃ l : List Fd, l.length = len ∧ ER 2 Fd.enc W (fun b => b < W.heap.size) a l ∧ (∀ x ∈ l, x.ok) ∧ l.length ≤ Rows.uptoBulk d := by
  obtain ⟨l, rfl, he, D, hok, hd⟩ := row_in (k := 2) (en := Fd.enc) (ok := fun (y : Fd) x => y.ok ∧ 1 ≤ Rows.uptoBulk x) Tryz.underlying63 (by kernel_rfl) (by decide) (fun _ => rfl) (fun fuel cs x hx => fold_in hx) h
  refine ⟨l, rfl, he, fun x hx => ?_, ?_⟩
  · obtain ⟨j, hj, rfl⟩ := List.getElem_of_mem hx
    exact (hok j hj).1
  · by_cases h0 : l = []
    · subst h0; simp
    · obtain ⟨r, rfl⟩ := hd h0
      refine Nat.le_trans ?_ (bulk_row (D := D) (n := l.length) (r := r)).2
      have := bulkAll_range D (fun _ => 1) l.length (fun j hj => (hok j hj).2)
      have e : ∀ n, VT.sumTo (fun _ => 1) n = n := fun n => by induction n with | zero => rfl | succ n ih => unfold VT.sumTo; rw [ih]
      rw [e] at this
      exact this
theorem folds_bulk : ∀ (l : List Fd), (∀ x ∈ l, x.ok) → ((l.map Fd.tree).map VT.bulk).sum ≤ 100 * l.length := by
  intro l
  induction l with
  | nil => intro _; simp
  | cons x l ih =>
    intro h
    have h1 := ih (fun y hy => h y (List.mem_cons_of_mem _ hy))
    have h2 := foldT_bulk x.a x.b (h x List.mem_cons_self).1 (h x List.mem_cons_self).2
    simp only [List.map_cons, List.sum_cons, List.length_cons]
    show (foldT x.a x.b).bulk + _ ≤ _
    omega
theorem list11 {α : Type} {l : List α} (h : l.length = 11) : ∃ a b c d e f g h i j k, l = [a, b, c, d, e, f, g, h, i, j, k] := by
  match l, h with
  | [a, b, c, d, e, f, g, h, i, j, k], _ => exact ⟨a, b, c, d, e, f, g, h, i, j, k, rfl⟩
theorem sumTo_add (f : Nat → Nat) (c : Nat) : ∀ n, VT.sumTo (fun i => f i + c) n = VT.sumTo f n + c * n
  | 0 => rfl
  | n + 1 => by unfold VT.sumTo; rw [sumTo_add f c n, Nat.mul_succ]; omega
theorem sumTo_le (f g : Nat → Nat) (n : Nat) (h : ∀ i, i < n → f i ≤ g i) : VT.sumTo f n ≤ VT.sumTo g n := by
  induction n with
  | zero => exact Nat.le_refl _
  | succ n ih => unfold VT.sumTo; have := ih (fun i hi => h i (by omega)); have := h n (by omega); omega
theorem sumTo_mul (f : Nat → Nat) (c : Nat) : ∀ n, VT.sumTo (fun i => c * f i) n = c * VT.sumTo f n
  | 0 => rfl
  | n + 1 => by unfold VT.sumTo; rw [sumTo_mul f c n, Nat.mul_add]
theorem lsF_bulk (n : Nat) (c : Nat → VT) : (lsF n c).bulk = 1 + n + VT.sumTo (fun j => (c j).bulk) n := by
  show 1 + 0 + n + 0 + 0 + VT.sumTo (fun j => (c j).bulk) n = _
  omega
theorem symT_bulk (nm : ByteArray) (k a b c d e f g h : Int) (L : VT) (q : I64 k ∧ I64 a ∧ I64 b ∧ I64 c ∧ I64 d ∧ I64 e ∧ I64 f ∧ I64 g ∧ I64 h) : (symT nm k a b c d e f g h L).bulk ≤ 700 + nm.size + L.bulk := by
  obtain ⟨q0, q1, q2, q3, q4, q5, q6, q7, q8⟩ := q
  have h1 := nbT_bulk k q0
  have h2 := rangeT_bulk a b c d q1 q2 q3 q4
  have h3 := rangeT_bulk e f g h q5 q6 q7 q8
  show 1 + 0 + 5 + 5 + (4 + (4 + (5 + (14 + (8 + 0))))) + (0 + (1 + nm.size + 0 + 0 + 0 + 0) + (nbT k).bulk + (rangeT a b c d).bulk + (rangeT e f g h).bulk + L.bulk) ≤ _
  omega
/-- what is known of a symbol that came in, of bulk u -/
structure SyIn (W : World) (t : SY) (cs : List Value) (u : Nat) : Prop where
  v : SYV W (fun b => b < W.heap.size) t cs
  bulk : t.tree.bulk + 1 ≤ 1000 * u
  small : t.small
  n : t.n ≤ u
set_option maxRecDepth 100000 in
/-- Some symbols that came in, each of them read by what is known of smaller ones. -/
theorem symbols_of {H : Type} {enc : TypeId × Value → H} {W : World} {N : Nat} (ih : ∀ (fuel : Nat) (cs : List Value) (x : DataW H × List MemPlace), Rows.uptoBulk x.1 ≤ N → DataW.trod enc Tryz.prog W 0 (fun _ => true) true fuel 114 cs = some x → ∃ t : SY, SyIn W t cs (Rows.uptoBulk x.1)) {fuel : Nat} {v : Value} {y : DataW H × List MemPlace}
    (hN : Rows.uptoBulk y.1 ≤ N + 1) (h : DataW.trod enc Tryz.prog W 0 (fun _ => true) true fuel 62 [v] = some y) :
    ∃ A n cap kids, v = .slice A n cap ∧ SYS W (fun b => b < W.heap.size) A n kids ∧ (∀ j, j < n → (kids j).small ∧ (kids j).n ≤ N + 1) ∧ n ≤ Rows.uptoBulk y.1 ∧ VT.sumTo (fun j => (kids j).tree.bulk) n + n ≤ 1000 * (Rows.uptoBulk y.1 - 1) ∧ 1 ≤ Rows.uptoBulk y.1 := by
  rcases open_slice Tryz.underlying62 h with ⟨e, rfl⟩ | ⟨a, len, cap, m2, n2, D, Pl, e, -, hl, -, hmm, rfl, hx⟩
  · injection e with e; exact ⟨none, 0, 0, fun _ => .leaf, e, .inl rfl, (fun j hj => by omega), Nat.zero_le _, by simp [VT.sumTo], by simp [Rows.uptoBulk]⟩
  · injection e with e
    simp only [if_true] at hmm
    have hc11 : Tryz.prog.cellsOf 114 = 11 := by kernel_rfl
    have hge : Rows.uptoBulkAll ((List.range len).map D) + 1 ≤ Rows.uptoBulk (.slice ((List.range len).map D) ((List.range (m2 - len)).map fun j => D (len + j))) := by simp only [Rows.uptoBulk]; omega
    generalize hU : Rows.uptoBulk (.slice ((List.range len).map D) ((List.range (m2 - len)).map fun j => D (len + j))) = U at *
    obtain ⟨c, hc⟩ := choose_lt (n := len) (p := fun j (u : SY) => (∃ b off, a = ⟨b, off, none⟩ ∧ b < W.heap.size ∧ ∃ ds : List Value, (∀ i v, ds[i]? = some v → W.cell? ⟨b, off + j * 11 + i, none⟩ = some v) ∧ SyIn W u ds (Rows.uptoBulk (D j)))) (fun j hj => by
      obtain ⟨cs', hcs, htr⟩ := hx j (by omega)
      obtain ⟨cs0, hcs0, htr0⟩ := hx 0 (by omega)
      have hDN : Rows.uptoBulk (D j) ≤ N := by
        have := bulkAll_mem D len j hj
        omega
      obtain ⟨u, hu⟩ := ih n2 cs' (D j, Pl j) hDN htr
      rw [hc11] at hcs hcs0
      obtain ⟨-, -, h0⟩ := World.cells?_some hcs
      obtain ⟨-, hl0, h00⟩ := World.cells?_some hcs0
      have hz := h00 0 (by omega)
      rw [Nat.zero_mul, List.getElem?_eq_getElem (by omega)] at hz
      obtain ⟨b, off, rfl⟩ : ∃ b off, a = ⟨b, off, none⟩ := by
        obtain ⟨b, off, s⟩ := a
        refine ⟨b, off, ?_⟩
        cases s with
        | none => rfl
        | some q =>
          simp only [Addr.add, if_true, World.cell?] at hz
          split at hz <;> simp at hz
      simp only [add_plain'] at h0 hz
      have hlt := World.block_lt_of_cell? W _ hz
      have hlen : cs'.length = 11 := (World.cells?_some hcs).2.1
      refine ⟨u, b, off, rfl, hlt, cs', fun i v hv => ?_, hu⟩
      have hi : i < 11 := by
        rcases Nat.lt_or_ge i cs'.length with h | h
        · omega
        · rw [List.getElem?_eq_none h] at hv; cases hv
      exact (h0 i hi).trans hv)
    refine ⟨some a, len, cap, c, e, ?_, (fun j hj => ?_), ?_, ?_, by omega⟩
    · by_cases h0 : len = 0
      · exact .inl h0
      · obtain ⟨b, off, rfl, hb, -⟩ := hc 0 (by omega)
        refine .inr ⟨b, off, rfl, hb, fun j hj => ?_⟩
        obtain ⟨b', off', e', -, ds, hh, hi⟩ := hc j hj
        have e1 : b = b' := congrArg Addr.block e'
        have e2 : off = off' := congrArg Addr.off e'
        subst e1; subst e2
        exact ⟨ds, hh, hi.v⟩
    · obtain ⟨b', off', e', -, ds, hh, hi⟩ := hc j hj
      have := bulkAll_mem D len j hj
      exact ⟨hi.small, by have := hi.n; omega⟩
    · have := bulkAll_range D (fun _ => 1) len (fun j hj => by obtain ⟨b', off', e', -, ds, hh, hi⟩ := hc j hj; have := hi.bulk; omega)
      have e : ∀ n, VT.sumTo (fun _ => 1) n = n := fun n => by induction n with | zero => rfl | succ n ih => unfold VT.sumTo; rw [ih]
      rw [e] at this
      omega
    · have h1 := sumTo_le (fun j => (c j).tree.bulk + 1) (fun j => 1000 * Rows.uptoBulk (D j)) len (fun j hj => by obtain ⟨b', off', e', -, ds, hh, hi⟩ := hc j hj; exact hi.bulk)
      rw [sumTo_add, sumTo_mul] at h1
      have h2 := bulkAll_range D (fun j => Rows.uptoBulk (D j)) len (fun j hj => Nat.le_refl _)
      omega
set_option maxRecDepth 100000 in
/-- A symbol that came in. -/
theorem symbol_in {H : Type} {enc : TypeId × Value → H} {W : World} : ∀ (N : Nat), N ≤ 1073741824 → ∀ (fuel : Nat) (cs : List Value) (x : DataW H × List MemPlace), Rows.uptoBulk x.1 ≤ N → DataW.trod enc Tryz.prog W 0 (fun _ => true) true fuel 114 cs = some x → ∃ t : SY, SyIn W t cs (Rows.uptoBulk x.1) := by
  intro N
  induction N with
  | zero =>
    intro _ fuel cs x hN h
    obtain ⟨xs, n, -, rfl, -⟩ := DataW.trod_struct Tryz.underlying114 h
    simp only [Rows.uptoBulk] at hN
    omega
  | succ N ih =>
    intro hNN fuel cs x hN h
    obtain ⟨xs, n, -, rfl, hl, hlen, hf⟩ := DataW.trod_struct Tryz.underlying114 h
    obtain ⟨v0, v1, v2, v3, v4, v5, v6, v7, v8, v9, v10, rfl⟩ := list11 (hl.trans (by kernel_rfl))
    obtain ⟨y0, y1, y2, y3, y4, rfl⟩ := list5 (l := xs) (hlen.trans rfl)
    have e0 : DataW.trod enc Tryz.prog W 0 (fun _ => true) true n 9 (([v0, v1, v2, v3, v4, v5, v6, v7, v8, v9, v10].drop 0).take (Tryz.prog.cellsOf 9)) = some y0 := hf 0 _ rfl
    have e1 : DataW.trod enc Tryz.prog W 0 (fun _ => true) true n 3 (([v0, v1, v2, v3, v4, v5, v6, v7, v8, v9, v10].drop 1).take (Tryz.prog.cellsOf 3)) = some y1 := hf 1 _ rfl
    have e2 : DataW.trod enc Tryz.prog W 0 (fun _ => true) true n 55 (([v0, v1, v2, v3, v4, v5, v6, v7, v8, v9, v10].drop 2).take (Tryz.prog.cellsOf 55)) = some y2 := hf 2 _ rfl
    have e3 : DataW.trod enc Tryz.prog W 0 (fun _ => true) true n 55 (([v0, v1, v2, v3, v4, v5, v6, v7, v8, v9, v10].drop 6).take (Tryz.prog.cellsOf 55)) = some y3 := hf 3 _ rfl
    have e4 : DataW.trod enc Tryz.prog W 0 (fun _ => true) true n 62 (([v0, v1, v2, v3, v4, v5, v6, v7, v8, v9, v10].drop 10).take (Tryz.prog.cellsOf 62)) = some y4 := hf 4 _ rfl
    have csl : Tryz.prog.cellsOf 62 = 1 := by kernel_rfl
    rw [cs] at e0
    rw [ci] at e1
    rw [cr] at e2 e3
    rw [csl] at e4
    obtain ⟨nm, en, xn, wn⟩ := DataW.trod_string Tryz.underlying9 e0
    obtain ⟨k, ek, xk, wk⟩ := DataW.trod_int Tryz.underlying3 e1
    obtain ⟨a, b, c, d, ea, wa, wb, wc, wd⟩ := range_in e2
    obtain ⟨e, f, g, h', ee, we, wf, wg, wh⟩ := range_in e3
    have e4' : DataW.trod enc Tryz.prog W 0 (fun _ => true) true n 62 [v10] = some y4 := e4
    simp only [List.map_cons, List.map_nil, Rows.uptoBulk, Rows.uptoBulkAll] at hN
    obtain ⟨A, p, cap, kids, hv, hS, hk, hn, hb, h1⟩ := symbols_of (N := N) (ih (by omega)) (by omega) e4'
    simp at en ek ea ee
    obtain ⟨rfl, rfl, rfl, rfl⟩ := ea
    obtain ⟨rfl, rfl, rfl, rfl⟩ := ee
    subst en; subst ek; subst hv; subst xn; subst xk
    have hq : I64 k ∧ I64 a ∧ I64 b ∧ I64 c ∧ I64 d ∧ I64 e ∧ I64 f ∧ I64 g ∧ I64 h' := ⟨bounds_i64 wk, wa, wb, wc, wd, we, wf, wg, wh⟩
    have hlenb : nm.data.toList.length = nm.size := Array.length_toList
    refine ⟨.mk nm k a b c d e f g h' p kids, ⟨A, cap, rfl, hq, hS⟩, ?_, ⟨?_, fun j hj => (hk j hj).1⟩, ?_⟩
    · have h2 := symT_bulk nm k a b c d e f g h' (lsF p fun j => (kids j).tree) hq
      rw [lsF_bulk] at h2
      show (symT nm k a b c d e f g h' (lsF p fun j => (kids j).tree)).bulk + 1 ≤ _
      simp only [List.map_cons, List.map_nil, Rows.uptoBulk, Rows.uptoBulkAll]
      omega
    · omega
    · show p ≤ _
      simp only [List.map_cons, List.map_nil, Rows.uptoBulk, Rows.uptoBulkAll]
      omega
theorem symbols_at {H : Type} {enc : TypeId × Value → H} {W : World} {a : Option Addr} {len cap : Nat} {d : DataW H} {ps : List MemPlace} (h : DataW.Trod enc Tryz.prog W 0 (fun _ => true) true 62 (.slice a len cap) d ps) (hd : Rows.uptoBulk d ≤ 1048576) :
    ∃ kids, SYA W.heap.size a len kids W ∧ (lsF len fun j => (kids j).tree).bulk ≤ 1073741824 ∧ ∀ j, j < len → (kids j).small ∧ (kids j).n ≤ 1073741824 := by
  obtain ⟨fuel, hf⟩ := h
  obtain ⟨A, n, cap', kids, e, hS, hk, hn, hb, h1⟩ := symbols_of (N := 1048576) (symbol_in 1048576 (by omega)) (y := (d, ps)) (by show Rows.uptoBulk d ≤ _; omega) (by simpa [Value.cells] using hf)
  injection e with e1 e2 e3
  subst e1; subst e2
  refine ⟨kids, ⟨Nat.le_refl _, hS⟩, ?_, fun j hj => ⟨(hk j hj).1, by have := (hk j hj).2; omega⟩⟩
  rw [lsF_bulk]
  have hd' : Rows.uptoBulk (d, ps).1 ≤ 1048576 := hd
  omega
end Go.Proofs.YthndgekjccclnaaGreatDoor.rowkit
