/-
  Layer 28, the walks: the methods, as the laws call them.
-/
import Derived.Test.YtfploakafbnigaaGreatDoorCPoolCancel
import Derived.Test.YtfploakafbnigaaGreatDoorCPoolTake
import Derived.Test.YtfploakafbnigaaGreatDoorCPoolDone
import Derived.Test.YtfploakafbnigaaGreatDoorCPoolNote
import Derived.Test.YtfploakafbnigaaGreatDoorCPoolId
namespace Go.Proofs.YtfploakafbnigaaGreatDoor
open Go.RowKit Val Pl YtfploakafbnigaaGreatDoorW.PrintLast
set_option linter.unusedVariables false
set_option linter.unusedSimpArgs false
/-- a pool whose box is pb, beside blocks that are to be kept -/
def PP {α : Type} (enc : α → Value) (Tj TP TW : TypeId) (B pb : Nat) (K : Nat → Prop) (s : Pst α) (w : World) : Prop :=
  ∃ h, h.pb = pb ∧ PM enc Tj TP TW B s h w ∧ ∀ b, K b → ¬ h.S b ∧ b < w.heap.size
/-- nothing below B has turned, nor what is to be kept -/
structure Kept (B : Nat) (K : Nat → Prop) (w w' : World) : Prop where
  below : Below B w w'
  same : ∀ b, K b → w'.heap[b]? = w.heap[b]?
theorem Kept.refl (B : Nat) (K : Nat → Prop) (w : World) : Kept B K w w := ⟨Below.refl _ _, fun _ _ => rfl⟩
theorem Kept.trans {B : Nat} {K : Nat → Prop} {a b c : World} (h : Kept B K a b) (k : Kept B K b c) : Kept B K a c := ⟨h.below.trans k.below, fun x hx => (k.same x hx).trans (h.same x hx)⟩
theorem Kept.bk {B : Nat} {K : Nat → Prop} {w w' : World} {g : Nat} {T : TypeId} {cs : Array Value} (h : Kept B K w w') (hg : BK w g T cs) (hK : K g) : BK w' g T cs := (h.same g hK).trans hg
section
variable {α : Type} {enc : α → Value} {Tj TP TW : TypeId} {B pb : Nat} {K : Nat → Prop} {s s' : Pst α} {w w' : World}
theorem PP.on (p : PP enc Tj TP TW B pb K s w) (hb : Below w.heap.size w w') : PP enc Tj TP TW B pb K s w' := by
  obtain ⟨h, e, p, k⟩ := p
  exact ⟨h, e, p.on hb, fun b hb' => ⟨(k b hb').1, Nat.lt_of_lt_of_le (k b hb').2 hb.size⟩⟩
theorem PP.kept (p : PP enc Tj TP TW B pb K s w) (hb : Below w.heap.size w w') : Kept B K w w' := by
  obtain ⟨h, e, p, k⟩ := p
  exact ⟨hb.mono p.B_le, fun b hb' => hb.block b (k b hb').2⟩
theorem PP.B_le (p : PP enc Tj TP TW B pb K s w) : B ≤ w.heap.size := by
  obtain ⟨h, e, p, k⟩ := p
  exact p.B_le
theorem PP.ml (p : PP enc Tj TP TW B pb K s w) : ML w := by
  obtain ⟨h, e, p, k⟩ := p
  exact p.ml
theorem PP.lt (p : PP enc Tj TP TW B pb K s w) {b : Nat} (hb : K b) : b < w.heap.size := by
  obtain ⟨h, e, p, k⟩ := p
  exact (k b hb).2
/-- a store into what is to be kept -/
theorem PP.but (p : PP enc Tj TP TW B pb K s w) {g : Nat} (hb : But g w w') (hg : K g) (hB : B ≤ g) : PP enc Tj TP TW B pb K s w' := by
  obtain ⟨h, e, p, k⟩ := p
  exact ⟨h, e, p.but hb (k g hg).1 hB, fun b hb' => ⟨(k b hb').1, Nat.lt_of_lt_of_le (k b hb').2 hb.size⟩⟩
/-- one block more is to be kept -/
theorem PP.add (p : PP enc Tj TP TW B pb K s w) (hb : Below w.heap.size w w') {g : Nat} (hg : w.heap.size ≤ g) (hl : g < w'.heap.size) : PP enc Tj TP TW B pb (fun b => K b ∨ b = g) s w' := by
  obtain ⟨h, e, p, k⟩ := p
  refine ⟨h, e, p.on hb, fun b hb' => ?_⟩
  rcases hb' with h1 | rfl
  · exact ⟨(k b h1).1, Nat.lt_of_lt_of_le (k b h1).2 hb.size⟩
  · exact ⟨fun hS => by have := p.S_lt hS; omega, hl⟩
theorem PP.few (p : PP enc Tj TP TW B pb K s w) {K' : Nat → Prop} (h : ∀ b, K' b → K b) : PP enc Tj TP TW B pb K' s w := by
  obtain ⟨h', e, p, k⟩ := p
  exact ⟨h', e, p, fun b hb => k b (h b hb)⟩
/-- a method's end -/
def PE (enc : α → Value) (Tj TP TW : TypeId) (B pb : Nat) (K : Nat → Prop) (s' : Pst α) (v : Value) (w : World) (e : Ending) (w' : World) : Prop :=
  e = .returned v ∧ PP enc Tj TP TW B pb K s' w' ∧ Kept B K w w'
theorem PO.pe {h : PH} {v : Value} {e : Ending} (p : PM enc Tj TP TW B s h w) (k : ∀ b, K b → ¬ h.S b ∧ b < w.heap.size) (o : PO enc Tj TP TW B s' h v w e w') : PE enc Tj TP TW B h.pb K s' v w e w' := by
  obtain ⟨h', e1, e2, p', m⟩ := o
  exact ⟨e1, ⟨h', e2, p', fun b hb => ⟨m.far (k b hb).2 (k b hb).1, Nat.lt_of_lt_of_le (k b hb).2 m.size⟩⟩, m.below (fun b hb => p.S_ge hb) p.B_le, fun b hb => m.old b (k b hb).2 (k b hb).1⟩
end
theorem num_ok {n : Nat} (h : n < 100) : LId.ok (numI n) := by
  refine ⟨by show I64 2; unfold I64; omega, ?_⟩
  show (idT n).size ≤ 1000
  unfold idT
  split <;> simp [ByteArray.size]
abbrev PPi (B pb : Nat) (K : Nat → Prop) (s : Pst Int) (w : World) : Prop := PP (Value.int .i64) 132 86 136 B pb K s w
theorem Call_pi {B pb : Nat} {K : Nat → Prop} {s : Pst Int} (n : Nat) (x : Int) (w : World) (p : PPi B pb K s w) (hn : n < 100) : Calls Tryz.prog 41 #[.pointer (some ⟨pb, 0, none⟩), .agg (LId.cells (numI n)).toArray, (Value.int .i64) x] w (PE (Value.int .i64) 132 86 136 B pb K ((s.call (numI n) x).2) (.int .i64 (s.call (numI n) x).1) w) := by
  obtain ⟨h, rfl, p, hkk⟩ := p
  exact (Call_i (numI n) x w p (num_ok hn)).mono fun e w' o => o.pe p hkk
theorem Note_pi {B pb : Nat} {K : Nat → Prop} {s : Pst Int} (nm : ByteArray) (x : Int) (w : World) (p : PPi B pb K s w) : Calls Tryz.prog 43 #[.pointer (some ⟨pb, 0, none⟩), .string nm, (Value.int .i64) x] w (PE (Value.int .i64) 132 86 136 B pb K ((s.note nm x).2) (.int .i64 (s.note nm x).1) w) := by
  obtain ⟨h, rfl, p, hkk⟩ := p
  exact (Note_i nm x w p).mono fun e w' o => o.pe p hkk
theorem Take_pi {B pb : Nat} {K : Nat → Prop} {s : Pst Int} (k : Nat) (m : Int) (w : World) (p : PPi B pb K s w) (hm : m = (k : Int)) (hk : k < s.us.length) : Calls Tryz.prog 44 #[.pointer (some ⟨pb, 0, none⟩), .int .i64 m] w (PE (Value.int .i64) 132 86 136 B pb K ((s.take k).2) (.tuple #[.bool (s.take k).1, .int .i64 0]) w) := by
  obtain ⟨h, rfl, p, hkk⟩ := p
  exact (Take_i k m w p hm hk).mono fun e w' o => o.pe p hkk
theorem Done_pi {B pb : Nat} {K : Nat → Prop} {s : Pst Int} (k : Nat) (m : Int) (w : World) (p : PPi B pb K s w) (hm : m = (k : Int)) (hk : k < s.us.length) : Calls Tryz.prog 45 #[.pointer (some ⟨pb, 0, none⟩), .int .i64 m] w (PE (Value.int .i64) 132 86 136 B pb K ((s.done k).2) (doneV_i (s.done k).1) w) := by
  obtain ⟨h, rfl, p, hkk⟩ := p
  exact (Done_i k m w p hm hk).mono fun e w' o => o.pe p hkk
theorem Cancel_pi {B pb : Nat} {K : Nat → Prop} {s : Pst Int} (n : Nat) (w : World) (p : PPi B pb K s w) (hn : n < 100) : Calls Tryz.prog 46 #[.pointer (some ⟨pb, 0, none⟩), .agg (LId.cells (numI n)).toArray] w (PE (Value.int .i64) 132 86 136 B pb K ((s.cancel (numI n)).2) (.tuple #[.bool (s.cancel (numI n)).1, .int .i64 0]) w) := by
  obtain ⟨h, rfl, p, hkk⟩ := p
  exact (Cancel_i (numI n) w p (num_ok hn) (by rw [numI_same hn hn]; simp)).mono fun e w' o => o.pe p hkk
theorem Has_pi {B pb : Nat} {K : Nat → Prop} {s : Pst Int} (n : Nat) (w : World) (p : PPi B pb K s w) (hn : n < 100) : Calls Tryz.prog 47 #[.pointer (some ⟨pb, 0, none⟩), .agg (LId.cells (numI n)).toArray] w (Made (.bool (s.has (numI n))) w) := by
  obtain ⟨h, rfl, p, k⟩ := p
  exact Has_i (numI n) w p (num_ok hn)
theorem Waits_pi {B pb : Nat} {K : Nat → Prop} {s : Pst Int} (w : World) (p : PPi B pb K s w) : Calls Tryz.prog 48 #[.pointer (some ⟨pb, 0, none⟩)] w fun e w' => e = .returned (.int .i64 s.q.length) ∧ w = w' := by
  obtain ⟨h, rfl, p, k⟩ := p
  exact Waits_i w p
theorem Under_pi {B pb : Nat} {K : Nat → Prop} {s : Pst Int} (w : World) (p : PPi B pb K s w) : Calls Tryz.prog 50 #[.pointer (some ⟨pb, 0, none⟩)] w fun e w' => e = .returned (.int .i64 s.many) ∧ w = w' := by
  obtain ⟨h, rfl, p, k⟩ := p
  exact Under_i w p
theorem New_pi (n : Nat) (m : Int) (w : World) (hm : m = (n : Int)) (hn : 1 ≤ n ∧ n ≤ 4) (hM : ML w) : Calls Tryz.prog 39 #[.int .i64 m] w fun e w' => ∃ pb, e = .returned (.tuple #[.pointer (some ⟨pb, 0, none⟩), .int .i64 0]) ∧ PPi w.heap.size pb (fun _ => False) (Pst.new n) w' ∧ Below w.heap.size w w' ∧ pb < w'.heap.size :=
  (New_i n m w hm hn hM w.heap.size (Nat.le_refl _) hM.lt).mono fun e w' ⟨h, e1, p, hb, hS⟩ => ⟨h.pb, e1, ⟨h, rfl, p, fun _ h => h.elim⟩, hb, p.box.lt⟩
abbrev PPs (B pb : Nat) (K : Nat → Prop) (s : Pst ByteArray) (w : World) : Prop := PP Value.string 203 200 204 B pb K s w
theorem Call_ps {B pb : Nat} {K : Nat → Prop} {s : Pst ByteArray} (n : Nat) (x : ByteArray) (w : World) (p : PPs B pb K s w) (hn : n < 100) : Calls Tryz.prog 113 #[.pointer (some ⟨pb, 0, none⟩), .agg (LId.cells (numI n)).toArray, Value.string x] w (PE Value.string 203 200 204 B pb K ((s.call (numI n) x).2) (.int .i64 (s.call (numI n) x).1) w) := by
  obtain ⟨h, rfl, p, hkk⟩ := p
  exact (Call_s (numI n) x w p (num_ok hn)).mono fun e w' o => o.pe p hkk
theorem Note_ps {B pb : Nat} {K : Nat → Prop} {s : Pst ByteArray} (nm : ByteArray) (x : ByteArray) (w : World) (p : PPs B pb K s w) : Calls Tryz.prog 114 #[.pointer (some ⟨pb, 0, none⟩), .string nm, Value.string x] w (PE Value.string 203 200 204 B pb K ((s.note nm x).2) (.int .i64 (s.note nm x).1) w) := by
  obtain ⟨h, rfl, p, hkk⟩ := p
  exact (Note_s nm x w p).mono fun e w' o => o.pe p hkk
theorem Take_ps {B pb : Nat} {K : Nat → Prop} {s : Pst ByteArray} (k : Nat) (m : Int) (w : World) (p : PPs B pb K s w) (hm : m = (k : Int)) (hk : k < s.us.length) : Calls Tryz.prog 116 #[.pointer (some ⟨pb, 0, none⟩), .int .i64 m] w (PE Value.string 203 200 204 B pb K ((s.take k).2) (.tuple #[.bool (s.take k).1, .int .i64 0]) w) := by
  obtain ⟨h, rfl, p, hkk⟩ := p
  exact (Take_s k m w p hm hk).mono fun e w' o => o.pe p hkk
theorem Done_ps {B pb : Nat} {K : Nat → Prop} {s : Pst ByteArray} (k : Nat) (m : Int) (w : World) (p : PPs B pb K s w) (hm : m = (k : Int)) (hk : k < s.us.length) : Calls Tryz.prog 119 #[.pointer (some ⟨pb, 0, none⟩), .int .i64 m] w (PE Value.string 203 200 204 B pb K ((s.done k).2) (doneV_s (s.done k).1) w) := by
  obtain ⟨h, rfl, p, hkk⟩ := p
  exact (Done_s k m w p hm hk).mono fun e w' o => o.pe p hkk
theorem Cancel_ps {B pb : Nat} {K : Nat → Prop} {s : Pst ByteArray} (n : Nat) (w : World) (p : PPs B pb K s w) (hn : n < 100) : Calls Tryz.prog 118 #[.pointer (some ⟨pb, 0, none⟩), .agg (LId.cells (numI n)).toArray] w (PE Value.string 203 200 204 B pb K ((s.cancel (numI n)).2) (.tuple #[.bool (s.cancel (numI n)).1, .int .i64 0]) w) := by
  obtain ⟨h, rfl, p, hkk⟩ := p
  exact (Cancel_s (numI n) w p (num_ok hn) (by rw [numI_same hn hn]; simp)).mono fun e w' o => o.pe p hkk
theorem Waits_ps {B pb : Nat} {K : Nat → Prop} {s : Pst ByteArray} (w : World) (p : PPs B pb K s w) : Calls Tryz.prog 115 #[.pointer (some ⟨pb, 0, none⟩)] w fun e w' => e = .returned (.int .i64 s.q.length) ∧ w = w' := by
  obtain ⟨h, rfl, p, k⟩ := p
  exact Waits_s w p
theorem Under_ps {B pb : Nat} {K : Nat → Prop} {s : Pst ByteArray} (w : World) (p : PPs B pb K s w) : Calls Tryz.prog 117 #[.pointer (some ⟨pb, 0, none⟩)] w fun e w' => e = .returned (.int .i64 s.many) ∧ w = w' := by
  obtain ⟨h, rfl, p, k⟩ := p
  exact Under_s w p
theorem New_ps (n : Nat) (m : Int) (w : World) (hm : m = (n : Int)) (hn : 1 ≤ n ∧ n ≤ 4) (hM : ML w) : Calls Tryz.prog 112 #[.int .i64 m] w fun e w' => ∃ pb, e = .returned (.tuple #[.pointer (some ⟨pb, 0, none⟩), .int .i64 0]) ∧ PPs w.heap.size pb (fun _ => False) (Pst.new n) w' ∧ Below w.heap.size w w' ∧ pb < w'.heap.size :=
  (New_s n m w hm hn hM w.heap.size (Nat.le_refl _) hM.lt).mono fun e w' ⟨h, e1, p, hb, hS⟩ => ⟨h.pb, e1, ⟨h, rfl, p, fun _ h => h.elim⟩, hb, p.box.lt⟩
end Go.Proofs.YtfploakafbnigaaGreatDoor
