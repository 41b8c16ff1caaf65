/-
  Joined texts: MkBack.
-/
import Derived.Test.YthndgekjccclnaaGreatDoorPkMkY
import Derived.Test.YthndgekjccclnaaGreatDoorPkMkE
import Derived.Test.YthndgekjccclnaaGreatDoorPkParC
namespace Go.Proofs.YthndgekjccclnaaGreatDoor
open Go.RowKit Val Num Go.Proofs.YthndgekjccclnaaGreatDoorW.PrintLast
set_option linter.unusedVariables false
set_option linter.unusedSimpArgs false

def tl_bk8 (z : Zone) (C : Nat) (b off n cap p : Nat) (wh : Bool) (x1 x2 x3 x4 : Int) (tx : ByteArray) : Tolds := [(0, 40, fun _ v => v = .slice (some ⟨b, off, none⟩) n cap), (1, 41, fun _ v => v = .int .i64 p), (2, 42, fun _ v => v = .pointer (some ⟨b, off + p * 6, none⟩)), (3, 43, fun _ v => v = .pointer (some ⟨b, off + p * 6, none⟩)), (4, 44, fun _ v => v = .bool wh), (5, 45, fun _ v => v = .slice (some ⟨b, off, none⟩) n cap), (6, 46, fun _ v => v = .int .i64 p), (7, 47, fun _ v => v = .pointer (some ⟨b, off + p * 6, none⟩)), (8, 48, fun _ v => v = .pointer (some ⟨b, off + p * 6 + 5, none⟩)), (9, 49, fun _ v => v = .string tx), (10, 50, fun _ v => v = .agg #[.bool wh, .int .i64 0, .int .i64 0, .int .i64 0, .int .i64 0, .string tx]), (11, 12, BOXV C 57 #[.bool false, .int .i64 0, .int .i64 0, .int .i64 0, .int .i64 0, .string ⟨#[]⟩])]
theorem tl_bk8_ok (z : Zone) (C : Nat) (b off n cap p : Nat) (wh : Bool) (x1 x2 x3 x4 : Int) (tx : ByteArray) : (tl_bk8 z C b off n cap p wh x1 x2 x3 x4 tx).ok 12 = true := by kernel_rfl
theorem tl_bk8_up (z : Zone) (C : Nat) (b off n cap p : Nat) (wh : Bool) (x1 x2 x3 x4 : Int) (tx : ByteArray) : (tl_bk8 z C b off n cap p wh x1 x2 x3 x4 tx).up := (tup_cons (fun _ _ _ h _ => h) (tup_cons (fun _ _ _ h _ => h) (tup_cons (fun _ _ _ h _ => h) (tup_cons (fun _ _ _ h _ => h) (tup_cons (fun _ _ _ h _ => h) (tup_cons (fun _ _ _ h _ => h) (tup_cons (fun _ _ _ h _ => h) (tup_cons (fun _ _ _ h _ => h) (tup_cons (fun _ _ _ h _ => h) (tup_cons (fun _ _ _ h _ => h) (tup_cons (fun _ _ _ h _ => h) (tup_cons (fun _ _ _ h hb => BOXV.up h hb) tup_nil))))))))))))

def tl_bk9 (z : Zone) (C : Nat) (g12 : Nat) (wh : Bool) (tx : ByteArray) : Tolds := [(0, 51, BLKV C 9 #[.string ⟨#[114, 97, 110, 103, 101, 76, 101, 110, 103, 116, 104]⟩, .string ⟨#[116, 101, 120, 116]⟩] 2), (1, 52, fun _ v => v = .agg #[.int .i64 2, .bool false, .string ⟨#[57]⟩, .slice none 0 0, .slice none 0 0]), (2, 53, fun _ v => v = .pointer (some ⟨g12, 5, none⟩)), (3, 54, fun _ v => v = .string tx), (4, 55, fun _ v => v = .agg #[.int .i64 3, .bool false, .string tx, .slice none 0 0, .slice none 0 0]), (5, 56, BLKV C 30 #[.int .i64 2, .bool false, .string ⟨#[57]⟩, .slice none 0 0, .slice none 0 0, .int .i64 3, .bool false, .string tx, .slice none 0 0, .slice none 0 0] 2), (6, 57, OBJV C 9 #[.string ⟨#[114, 97, 110, 103, 101, 76, 101, 110, 103, 116, 104]⟩, .string ⟨#[116, 101, 120, 116]⟩] 2 30 #[.int .i64 2, .bool false, .string ⟨#[57]⟩, .slice none 0 0, .slice none 0 0, .int .i64 3, .bool false, .string tx, .slice none 0 0, .slice none 0 0] 2), (7, 13, BOXV C 30 #[.int .i64 0, .bool false, .string ⟨#[]⟩, .slice none 0 0, .slice none 0 0])]
theorem tl_bk9_ok (z : Zone) (C : Nat) (g12 : Nat) (wh : Bool) (tx : ByteArray) : (tl_bk9 z C g12 wh tx).ok 8 = true := by kernel_rfl
theorem tl_bk9_up (z : Zone) (C : Nat) (g12 : Nat) (wh : Bool) (tx : ByteArray) : (tl_bk9 z C g12 wh tx).up := (tup_cons (fun _ _ _ h hb => BLKV.up h hb) (tup_cons (fun _ _ _ h _ => h) (tup_cons (fun _ _ _ h _ => h) (tup_cons (fun _ _ _ h _ => h) (tup_cons (fun _ _ _ h _ => h) (tup_cons (fun _ _ _ h hb => BLKV.up h hb) (tup_cons (fun _ _ _ h hb => OBJV.up h hb) (tup_cons (fun _ _ _ h hb => BOXV.up h hb) tup_nil))))))))

def tl_bk11 (z : Zone) (b off n cap p g12 : Nat) (x1 x2 x3 x4 : Int) (tx : ByteArray) : Tolds := [(0, 61, fun _ v => v = .slice (some ⟨b, off, none⟩) n cap), (1, 62, fun _ v => v = .int .i64 p), (2, 63, fun _ v => v = .pointer (some ⟨b, off + p * 6, none⟩)), (3, 64, fun _ v => v = .pointer (some ⟨b, off + p * 6 + 1, none⟩)), (4, 65, fun _ v => v = .pointer (some ⟨b, off + p * 6 + 1, none⟩)), (5, 66, fun _ v => v = .agg #[.int .i64 x1, .int .i64 x2]), (6, 67, fun _ v => v = .agg #[.int .i64 (x1 % 2147483648), .int .i64 (x2 % 2147483648)]), (7, 68, fun _ v => v = .slice (some ⟨b, off, none⟩) n cap), (8, 69, fun _ v => v = .int .i64 p), (9, 70, fun _ v => v = .pointer (some ⟨b, off + p * 6, none⟩)), (10, 71, fun _ v => v = .pointer (some ⟨b, off + p * 6 + 1, none⟩)), (11, 72, fun _ v => v = .pointer (some ⟨b, off + p * 6 + 3, none⟩)), (12, 73, fun _ v => v = .agg #[.int .i64 x3, .int .i64 x4]), (13, 74, fun _ v => v = .agg #[.int .i64 (x3 % 2147483648), .int .i64 (x4 % 2147483648)]), (14, 75, fun _ v => v = .agg #[.int .i64 (x1 % 2147483648), .int .i64 (x2 % 2147483648), .int .i64 (x3 % 2147483648), .int .i64 (x4 % 2147483648)]), (15, 76, fun _ v => v = .pointer (some ⟨g12, 1, none⟩))]
theorem tl_bk11_ok (z : Zone) (b off n cap p g12 : Nat) (x1 x2 x3 x4 : Int) (tx : ByteArray) : (tl_bk11 z b off n cap p g12 x1 x2 x3 x4 tx).ok 16 = true := by kernel_rfl
theorem tl_bk11_up (z : Zone) (b off n cap p g12 : Nat) (x1 x2 x3 x4 : Int) (tx : ByteArray) : (tl_bk11 z b off n cap p g12 x1 x2 x3 x4 tx).up := (tup_cons (fun _ _ _ h _ => h) (tup_cons (fun _ _ _ h _ => h) (tup_cons (fun _ _ _ h _ => h) (tup_cons (fun _ _ _ h _ => h) (tup_cons (fun _ _ _ h _ => h) (tup_cons (fun _ _ _ h _ => h) (tup_cons (fun _ _ _ h _ => h) (tup_cons (fun _ _ _ h _ => h) (tup_cons (fun _ _ _ h _ => h) (tup_cons (fun _ _ _ h _ => h) (tup_cons (fun _ _ _ h _ => h) (tup_cons (fun _ _ _ h _ => h) (tup_cons (fun _ _ _ h _ => h) (tup_cons (fun _ _ _ h _ => h) (tup_cons (fun _ _ _ h _ => h) (tup_cons (fun _ _ _ h _ => h) tup_nil))))))))))))))))

def tl_bk17 (z : Zone) (C : Nat) (br ofr capr n16 g14 : Nat) (p0 p1 p2 p3 p4 p5 p6 p7 p8 p9 : Value) : Tolds := [(0, 90, fun _ v => v = .pointer (some ⟨g14, 3, none⟩)), (1, 91, fun _ v => v = .slice (some ⟨br, ofr, none⟩) 2 capr), (2, 92, fun _ v => v = .pointer (some ⟨br, ofr + 5, none⟩)), (3, 93, fun _ v => v = .agg #[p5, p6, p7, p8, p9]), (4, 94, fun _ v => v = .agg #[.int .i64 3, .bool false, .string ⟨#[121]⟩, .slice none 0 0, .slice none 0 0]), (5, 95, fun _ v => v = .pointer (some ⟨g14, 3, none⟩)), (6, 96, fun _ v => v = .slice (some ⟨br, ofr, none⟩) 2 capr), (7, 97, fun _ v => v = .pointer (some ⟨br, ofr, none⟩)), (8, 98, fun _ v => v = .agg #[p0, p1, p2, p3, p4]), (9, 99, BLKV C 30 #[p5, p6, p7, p8, p9, .int .i64 3, .bool false, .string ⟨#[121]⟩, .slice none 0 0, .slice none 0 0, p0, p1, p2, p3, p4] 3), (10, 100, fun _ v => v = .pointer (some ⟨g14, 3, none⟩))]
theorem tl_bk17_ok (z : Zone) (C : Nat) (br ofr capr n16 g14 : Nat) (p0 p1 p2 p3 p4 p5 p6 p7 p8 p9 : Value) : (tl_bk17 z C br ofr capr n16 g14 p0 p1 p2 p3 p4 p5 p6 p7 p8 p9).ok 11 = true := by kernel_rfl
theorem tl_bk17_up (z : Zone) (C : Nat) (br ofr capr n16 g14 : Nat) (p0 p1 p2 p3 p4 p5 p6 p7 p8 p9 : Value) : (tl_bk17 z C br ofr capr n16 g14 p0 p1 p2 p3 p4 p5 p6 p7 p8 p9).up := (tup_cons (fun _ _ _ h _ => h) (tup_cons (fun _ _ _ h _ => h) (tup_cons (fun _ _ _ h _ => h) (tup_cons (fun _ _ _ h _ => h) (tup_cons (fun _ _ _ h _ => h) (tup_cons (fun _ _ _ h _ => h) (tup_cons (fun _ _ _ h _ => h) (tup_cons (fun _ _ _ h _ => h) (tup_cons (fun _ _ _ h _ => h) (tup_cons (fun _ _ _ h hb => BLKV.up h hb) (tup_cons (fun _ _ _ h _ => h) tup_nil)))))))))))

def tl_bk23 (z : Zone) (C : Nat) (EA : Option Addr) (N ecap gv gn g15 : Nat) : Tolds := [(0, 128, BLKV C 9 #[.string ⟨#[99, 111, 110, 116, 101, 110, 116, 67, 104, 97, 110, 103, 101, 115]⟩, .string ⟨#[116, 101, 120, 116, 68, 111, 99, 117, 109, 101, 110, 116]⟩] 2), (1, 129, fun _ v => v = .slice EA N ecap), (2, 130, fun _ v => v = .agg #[.int .i64 4, .bool false, .string ⟨#[]⟩, .slice EA N ecap, .slice none 0 0]), (3, 131, fun _ v => v = .agg #[.int .i64 5, .bool false, .string ⟨#[]⟩, .slice (some ⟨gv, 0, none⟩) 3 3, .slice (some ⟨gn, 0, none⟩) 3 3]), (4, 132, BLKV C 30 #[.int .i64 4, .bool false, .string ⟨#[]⟩, .slice EA N ecap, .slice none 0 0, .int .i64 5, .bool false, .string ⟨#[]⟩, .slice (some ⟨gv, 0, none⟩) 3 3, .slice (some ⟨gn, 0, none⟩) 3 3] 2), (5, 133, OBJV C 9 #[.string ⟨#[99, 111, 110, 116, 101, 110, 116, 67, 104, 97, 110, 103, 101, 115]⟩, .string ⟨#[116, 101, 120, 116, 68, 111, 99, 117, 109, 101, 110, 116]⟩] 2 30 #[.int .i64 4, .bool false, .string ⟨#[]⟩, .slice EA N ecap, .slice none 0 0, .int .i64 5, .bool false, .string ⟨#[]⟩, .slice (some ⟨gv, 0, none⟩) 3 3, .slice (some ⟨gn, 0, none⟩) 3 3] 2), (6, 16, BOXV C 30 #[.int .i64 0, .bool false, .string ⟨#[]⟩, .slice none 0 0, .slice none 0 0])]
theorem tl_bk23_ok (z : Zone) (C : Nat) (EA : Option Addr) (N ecap gv gn g15 : Nat) : (tl_bk23 z C EA N ecap gv gn g15).ok 7 = true := by kernel_rfl
theorem tl_bk23_up (z : Zone) (C : Nat) (EA : Option Addr) (N ecap gv gn g15 : Nat) : (tl_bk23 z C EA N ecap gv gn g15).up := (tup_cons (fun _ _ _ h hb => BLKV.up h hb) (tup_cons (fun _ _ _ h _ => h) (tup_cons (fun _ _ _ h _ => h) (tup_cons (fun _ _ _ h _ => h) (tup_cons (fun _ _ _ h hb => BLKV.up h hb) (tup_cons (fun _ _ _ h hb => OBJV.up h hb) (tup_cons (fun _ _ _ h hb => BOXV.up h hb) tup_nil)))))))

def tl_bk25 (z : Zone) (C : Nat) (EA : Option Addr) (N ecap gv gn g15 : Nat) : Tolds := [(0, 138, BLKV C 9 #[.string ⟨#[99, 111, 110, 116, 101, 110, 116, 67, 104, 97, 110, 103, 101, 115]⟩, .string ⟨#[120]⟩, .string ⟨#[116, 101, 120, 116, 68, 111, 99, 117, 109, 101, 110, 116]⟩, .string ⟨#[99, 111, 110, 116, 101, 110, 116, 67, 104, 97, 110, 103, 101, 115]⟩] 4), (1, 139, fun _ v => v = .agg #[.int .i64 3, .bool false, .string ⟨#[111, 108, 100]⟩, .slice none 0 0, .slice none 0 0]), (2, 140, fun _ v => v = .agg #[.int .i64 4, .bool false, .string ⟨#[]⟩, .slice none 0 0, .slice none 0 0]), (3, 141, fun _ v => v = .agg #[.int .i64 5, .bool false, .string ⟨#[]⟩, .slice (some ⟨gv, 0, none⟩) 3 3, .slice (some ⟨gn, 0, none⟩) 3 3]), (4, 142, fun _ v => v = .slice EA N ecap), (5, 143, fun _ v => v = .agg #[.int .i64 4, .bool false, .string ⟨#[]⟩, .slice EA N ecap, .slice none 0 0]), (6, 144, BLKV C 30 #[.int .i64 3, .bool false, .string ⟨#[111, 108, 100]⟩, .slice none 0 0, .slice none 0 0, .int .i64 4, .bool false, .string ⟨#[]⟩, .slice none 0 0, .slice none 0 0, .int .i64 5, .bool false, .string ⟨#[]⟩, .slice (some ⟨gv, 0, none⟩) 3 3, .slice (some ⟨gn, 0, none⟩) 3 3, .int .i64 4, .bool false, .string ⟨#[]⟩, .slice EA N ecap, .slice none 0 0] 4), (7, 145, OBJV C 9 #[.string ⟨#[99, 111, 110, 116, 101, 110, 116, 67, 104, 97, 110, 103, 101, 115]⟩, .string ⟨#[120]⟩, .string ⟨#[116, 101, 120, 116, 68, 111, 99, 117, 109, 101, 110, 116]⟩, .string ⟨#[99, 111, 110, 116, 101, 110, 116, 67, 104, 97, 110, 103, 101, 115]⟩] 4 30 #[.int .i64 3, .bool false, .string ⟨#[111, 108, 100]⟩, .slice none 0 0, .slice none 0 0, .int .i64 4, .bool false, .string ⟨#[]⟩, .slice none 0 0, .slice none 0 0, .int .i64 5, .bool false, .string ⟨#[]⟩, .slice (some ⟨gv, 0, none⟩) 3 3, .slice (some ⟨gn, 0, none⟩) 3 3, .int .i64 4, .bool false, .string ⟨#[]⟩, .slice EA N ecap, .slice none 0 0] 4)]
theorem tl_bk25_ok (z : Zone) (C : Nat) (EA : Option Addr) (N ecap gv gn g15 : Nat) : (tl_bk25 z C EA N ecap gv gn g15).ok 8 = true := by kernel_rfl
theorem tl_bk25_up (z : Zone) (C : Nat) (EA : Option Addr) (N ecap gv gn g15 : Nat) : (tl_bk25 z C EA N ecap gv gn g15).up := (tup_cons (fun _ _ _ h hb => BLKV.up h hb) (tup_cons (fun _ _ _ h _ => h) (tup_cons (fun _ _ _ h _ => h) (tup_cons (fun _ _ _ h _ => h) (tup_cons (fun _ _ _ h _ => h) (tup_cons (fun _ _ _ h _ => h) (tup_cons (fun _ _ _ h hb => BLKV.up h hb) (tup_cons (fun _ _ _ h hb => OBJV.up h hb) tup_nil))))))))


/-- an edit as it is told -/
def wantE (x : VT.Ed) : VT.Ed := if x.whole then ⟨true, 0, 0, 0, 0, x.text⟩ else ⟨false, x.a % 2147483648, x.b % 2147483648, x.c % 2147483648, x.d % 2147483648, x.text⟩
theorem wantE_far (x : VT.Ed) : FarEd (wantE x) := by
  unfold wantE
  cases x.whole
  · exact ⟨(fun h => by cases h), far_ok _, far_ok _, far_ok _, far_ok _⟩
  · exact ⟨fun _ => ⟨rfl, rfl, rfl, rfl⟩, (by show Far 0; unfold Far; omega), (by show Far 0; unfold Far; omega), (by show Far 0; unfold Far; omega), (by show Far 0; unfold Far; omega)⟩
set_option maxRecDepth 100000 in
set_option maxHeartbeats 16000000 in
theorem ParamBack_walk (uri : ByteArray) (l : List VT.Ed) (h0 h1 h2 : Int) (A : Option Addr) (cap : Nat) (w : World) (hu : uri.size ≤ 1048576) (hl : l.length ≤ 1048576) (he : ER 6 edC w (fun b => b < w.heap.size) A l) (ho : ∀ x ∈ l, I64 x.a ∧ I64 x.b ∧ I64 x.c ∧ I64 x.d) (htx : ∀ x ∈ l, x.text.size ≤ 1048576)
    (q0 : I64 h0) (q1 : I64 h1) (q2 : I64 h2) (hP : PTab w) (hM : ML w) :
    Calls Tryz.prog 8 #[.string uri, .slice A l.length cap, .agg #[.int .i64 h0, .int .i64 h1, .int .i64 h2]] w fun e w' => e = .returned (.bool true) ∧ Below w.heap.size w w' := by
  have HE := Lib.hid he
  have HO := Lib.hid ho
  have HTX := Lib.hid htx
  have Q0 := Lib.hid q0
  have Q1 := Lib.hid q1
  have Q2 := Lib.hid q2
  have HPT := Lib.hid hP
  have HML := Lib.hid hM
  obtain ⟨n, hn⟩ : ∃ n, l.length = n := ⟨_, rfl⟩
  have HN := Lib.hid hn
  rw [hn] at hl
  rw [hn]
  clear he ho htx q0 q1 q2 hP hM hn
  obtain ⟨e0, he0, hy0, hy1, hy2⟩ := info_parts Tryz.infoE
  have HE0 := Lib.hid he0
  have HEZ0 := Lib.hid hy0
  have HEZ1 := Lib.hid hy1
  have HEZ2 := Lib.hid hy2
  obtain ⟨i0, hi0, hz0, hz1, hz2⟩ := info_parts Tryz.infoV
  have HI0 := Lib.hid hi0
  have HIZ0 := Lib.hid hz0
  have HIZ1 := Lib.hid hz1
  have HIZ2 := Lib.hid hz2
  obtain ⟨j0, hj0, hx0, hx1, hx2⟩ := info_parts Tryz.infoS
  have HJ0 := Lib.hid hj0
  have HJZ0 := Lib.hid hx0
  have HJZ1 := Lib.hid hx1
  have HJZ2 := Lib.hid hx2
  clear he0 hy0 hy1 hy2 hi0 hz0 hz1 hz2 hj0 hx0 hx1 hx2
  go_enter Tryz.func8, Tryz.ntmps8
  have hsz : 1 ≤ (ByteArray.mk #[117] ++ uri.extract 0 (min (uri.size : Int) 255).toNat).size ∧ (ByteArray.mk #[117] ++ uri.extract 0 (min (uri.size : Int) 255).toNat).size ≤ 256 := by
    rw [ByteArray.size_append, ByteArray.size_extract]
    have : (ByteArray.mk #[117]).size = 1 := rfl
    omega
  have HSZ := Lib.hid hsz
  clear hsz
  have HB : Hid (Below w.heap.size w (w.alloc (.cells #[.int .i64 h0, .int .i64 h1, .int .i64 h2] 51))) := Lib.hid (made_end _)
  have HH : Hid (BK (w.alloc (.cells #[.int .i64 h0, .int .i64 h1, .int .i64 h2] 51)) w.heap.size 51 #[.int .i64 h0, .int .i64 h1, .int .i64 h2]) := Lib.hid (BK.new w _ _)
  have HS1 : Hid (w.heap.size + 1 ≤ (w.alloc (.cells #[.int .i64 h0, .int .i64 h1, .int .i64 h2] 51)).heap.size) := Lib.hid (by simp)
  go_upto_region 2 with (fail)
  generalize (ByteArray.mk #[117] ++ uri.extract 0 (min (uri.size : Int) 255).toNat) = s at *
  generalize (w.alloc (.cells #[.int .i64 h0, .int .i64 h1, .int .i64 h2] 51)) = w1 at *
  have k0 := HH.out.c 0 rfl
  go_wp2_with fail
  clear k0
  refine (Bring2_any h0 9007199254740992 w1 Q0.out (by omega)).mono ?_
  rintro e w2 ⟨rfl, hb⟩
  have HVER : Hid (0 ≤ h0 % 9007199254740992 ∧ h0 % 9007199254740992 ≤ 9007199254740991) := Lib.hid ⟨Int.emod_nonneg _ (by omega), by have := Int.emod_lt_of_pos h0 (b := 9007199254740992) (by omega); omega⟩
  generalize h0 % 9007199254740992 = ver at *
  replace HH := Lib.hid (HH.out.on hb)
  replace HS1 := Lib.hid (Nat.le_trans HS1.out hb.size)
  replace HB := Lib.hid (HB.out.trans (hb.mono HB.out.size))
  clear hb
  obtain ⟨N, hN, HNN⟩ : ∃ N, min n 32 = N ∧ Hid (N ≤ 32 ∧ N ≤ n ∧ (N = n ∨ N = 32)) := ⟨_, rfl, Lib.hid (by omega)⟩
  clear hN
  go_wp2_with fail
  obtain ⟨sw, HSW⟩ : ∃ sw : Bool, Hid (decide (h1 % 2 = 1) = sw) := ⟨_, Lib.hid rfl⟩
  go_loopg [9, 10, 11] N (fun q v9 v10 v11 wr => ∃ (p : Nat) (wv ev : Value) (xs : List Value), p + q = N ∧ v11 = .int .i64 p ∧ wv = v9 ∧ ev = v10 ∧ BkM w #[.int .i64 h0, .int .i64 h1, .int .i64 h2] wr.heap.size wv ev p (edCs ((l.take p).map wantE)) xs (fun j => ((l.map wantE).map (edT sw)).getD j .leaf) wr)
  case atStart =>
    exact ⟨0, _, _, [], by omega, rfl, rfl, rfl, HH.out, HB.out, World.ownsRow_nil _ _ _ _, World.ownsRow_nil _ _ _ _, VR.nil _ _ _, (fun _ h => by cases h), (fun _ h => by cases h), (fun _ h => by cases h), HS1.out, Nat.le_refl _⟩
  case round =>
    obtain ⟨p, wv, ev, xs, hp, rfl, rfl, rfl, hM⟩ := hrel
    have HPQ := Lib.hid hp
    have HM := Lib.hid hM
    clear hp hM HH HB HS1
    by_cases hlt : p < N
    · have hpn : p < n := by have := HNN.out; omega
      have hd0 : decide ((p : Int) < (n : Int)) = true := by simp; omega
      have hd1 : decide (p < n) = true := by simp; omega
      have hd2 : decide ((p : Int) < 32) = true := by have := HNN.out; simp; omega
      have hd3 : decide (p < 32) = true := by have := HNN.out; simp; omega
      have i1 : (0 : Int) ≤ p := by omega
      have i2 : (p : Int) < n := by omega
      have hpl : p < l.length := by have := HN.out; omega
      rcases HE.out with hh | ⟨b, off, rfl, hblt, hc⟩
      · subst hh; simp at hpl
      have hcc := hc p hpl
      have HT : Hid ((fun j => ((l.map wantE).map (edT sw)).getD j .leaf) p = edT sw (wantE l[p])) := Lib.hid (by show ((l.map wantE).map (edT sw)).getD p .leaf = _; rw [List.getD_eq_getElem?_getD]; simp [hpl])
      have HWS : Hid (edCs ((l.take p).map wantE) ++ edC (wantE l[p]) = edCs ((l.take (p + 1)).map wantE)) := Lib.hid (by rw [List.take_succ_eq_append_getElem hpl, List.map_append, ← edCs_snoc]; rfl)
      have HOK := Lib.hid (HO.out l[p] (List.getElem_mem hpl))
      have HTS := Lib.hid (HTX.out l[p] (List.getElem_mem hpl))
      generalize l[p] = x at *
      obtain ⟨wh, x1, x2, x3, x4, tx⟩ := x
      have HROW : Hid (RowAt b (off + p * 6) [.bool wh, .int .i64 x1, .int .i64 x2, .int .i64 x3, .int .i64 x4, .string tx] wr) := Lib.hid ⟨Nat.lt_of_lt_of_le hblt HM.out.below.size, fun i v hv => (HM.out.below.cell (p := ⟨b, off + p * 6 + i, none⟩) hblt).trans (hcc i v hv)⟩
      replace HOK : Hid (I64 x1 ∧ I64 x2 ∧ I64 x3 ∧ I64 x4) := HOK
      replace HTS : Hid (tx.size ≤ 1048576) := HTS
      have HLT := Lib.hid hlt
      clear hcc hc hlt hpl hpn
      have HBr := Lib.hid (Below.refl wr.heap.size wr)
      obtain ⟨H, hH⟩ : ∃ H, wr.heap.size = H := ⟨_, rfl⟩
      have HHr := Lib.hid hH
      rw [hH] at HBr HM
      have HQ := Lib.hid (Nat.le_of_eq hH.symm)
      clear hH
      go_wp2_with fail
      refine start_ (n := 13) (S := fun w' => True) (ds := []) #[false, false, false, false, false, false, false, false, false, false, false, false, false] (by kernel_rfl) rfl rfl trivial (fun hHeld => ?_)
      clear hHeld
      have hb : Below wr.heap.size wr wr.drew := (Below.refl _ _).drew
      replace HBr := Lib.hid (HBr.out.trans (hb.mono HQ.out))
      replace HROW := Lib.hid (HROW.out.on hb)
      replace HQ := Lib.hid (Nat.le_trans HQ.out hb.size)
      clear hb
      generalize wr.drew = c8 at *
      refine inv_ (B := [0, 0, 3, 7, 15, 0, 0, 96, 224, 480, 1023, 0, 4095]) [0, 1, 2, 3, 4, 5, 6, 7, 8, 9, 10, 11, 12] (ToldI _ (tl_bk8 (zNew 0) c8.heap.size b off n cap p wh x1 x2 x3 x4 tx) 12 c8 _) rfl (by kernel_rfl) (by kernel_rfl) (by kernel_rfl) told_begin ?_ (told_end (by kernel_rfl))
      refine steps_cons (told_step 0 (tl_bk8_ok (zNew 0) c8.heap.size b off n cap p wh x1 x2 x3 x4 tx) (tl_bk8_up (zNew 0) c8.heap.size b off n cap p wh x1 x2 x3 x4 tx) rfl (by kernel_rfl) ?_) ?_
      · intro bb V a w' ha hB hF hon
        refine ⟨_, rfl, rfl, fun K hK => ?_⟩
        have e1 : a.tmps[1]? = some (.slice (some ⟨b, off, none⟩) n cap) := by rw [ha]; exact (putSel_off (by rfl)).trans rfl
        refine value_ (w1 := w') (v := .slice (some ⟨b, off, none⟩) n cap) rfl rfl ?_ (hK _ _ (Below.refl _ _) rfl)
        clear ha hF hon hK K
        go_simp
        all_goals first | rfl | (constructor <;> rfl)
      refine steps_cons (told_step 1 (tl_bk8_ok (zNew 0) c8.heap.size b off n cap p wh x1 x2 x3 x4 tx) (tl_bk8_up (zNew 0) c8.heap.size b off n cap p wh x1 x2 x3 x4 tx) rfl (by kernel_rfl) ?_) ?_
      · intro bb V a w' ha hB hF hon
        refine ⟨_, rfl, rfl, fun K hK => ?_⟩
        have e11 : a.tmps[11]? = some (.int .i64 p) := by rw [ha]; exact (putSel_off (by rfl)).trans rfl
        refine value_ (w1 := w') (v := .int .i64 p) rfl rfl ?_ (hK _ _ (Below.refl _ _) rfl)
        clear ha hF hon hK K
        go_simp
        all_goals first | rfl | (constructor <;> rfl)
      refine steps_cons (told_step 2 (tl_bk8_ok (zNew 0) c8.heap.size b off n cap p wh x1 x2 x3 x4 tx) (tl_bk8_up (zNew 0) c8.heap.size b off n cap p wh x1 x2 x3 x4 tx) rfl (by kernel_rfl) ?_) ?_
      · intro bb V a w' ha hB hF hon
        refine ⟨_, rfl, rfl, fun K hK => ?_⟩
        have e40 := told_get 0 (tl_bk8_ok (zNew 0) c8.heap.size b off n cap p wh x1 x2 x3 x4 tx) rfl ha (hon 0 (by kernel_rfl)) (by kernel_rfl)
        have F40 : V 0 = .slice (some ⟨b, off, none⟩) n cap := told_fact 0 hF rfl (hon 0 (by kernel_rfl))
        rw [F40] at e40
        have e41 := told_get 1 (tl_bk8_ok (zNew 0) c8.heap.size b off n cap p wh x1 x2 x3 x4 tx) rfl ha (hon 1 (by kernel_rfl)) (by kernel_rfl)
        have F41 : V 1 = .int .i64 p := told_fact 1 hF rfl (hon 1 (by kernel_rfl))
        rw [F41] at e41
        refine value_ (w1 := w') (v := .pointer (some ⟨b, off + p * 6, none⟩)) rfl rfl ?_ (hK _ _ (Below.refl _ _) rfl)
        clear ha hF hon hK K
        go_simp
        all_goals first | rfl | (constructor <;> rfl)
      refine steps_cons (told_step 3 (tl_bk8_ok (zNew 0) c8.heap.size b off n cap p wh x1 x2 x3 x4 tx) (tl_bk8_up (zNew 0) c8.heap.size b off n cap p wh x1 x2 x3 x4 tx) rfl (by kernel_rfl) ?_) ?_
      · intro bb V a w' ha hB hF hon
        refine ⟨_, rfl, rfl, fun K hK => ?_⟩
        have e42 := told_get 2 (tl_bk8_ok (zNew 0) c8.heap.size b off n cap p wh x1 x2 x3 x4 tx) rfl ha (hon 2 (by kernel_rfl)) (by kernel_rfl)
        have F42 : V 2 = .pointer (some ⟨b, off + p * 6, none⟩) := told_fact 2 hF rfl (hon 2 (by kernel_rfl))
        rw [F42] at e42
        refine value_ (w1 := w') (v := .pointer (some ⟨b, off + p * 6, none⟩)) rfl rfl ?_ (hK _ _ (Below.refl _ _) rfl)
        clear ha hF hon hK K
        go_simp
        all_goals first | rfl | (constructor <;> rfl)
      refine steps_cons (told_step 4 (tl_bk8_ok (zNew 0) c8.heap.size b off n cap p wh x1 x2 x3 x4 tx) (tl_bk8_up (zNew 0) c8.heap.size b off n cap p wh x1 x2 x3 x4 tx) rfl (by kernel_rfl) ?_) ?_
      · intro bb V a w' ha hB hF hon
        refine ⟨_, rfl, rfl, fun K hK => ?_⟩
        have e43 := told_get 3 (tl_bk8_ok (zNew 0) c8.heap.size b off n cap p wh x1 x2 x3 x4 tx) rfl ha (hon 3 (by kernel_rfl)) (by kernel_rfl)
        have F43 : V 3 = .pointer (some ⟨b, off + p * 6, none⟩) := told_fact 3 hF rfl (hon 3 (by kernel_rfl))
        rw [F43] at e43
        have hg := HROW.out.on hB
        have y0 := hg.c0 _ rfl
        clear hg
        refine value_ (w1 := w') (v := .bool wh) rfl rfl ?_ (hK _ _ (Below.refl _ _) rfl)
        clear ha hF hon hK K
        go_simp
        all_goals first | rfl | (constructor <;> rfl)
      refine steps_cons (told_step 5 (tl_bk8_ok (zNew 0) c8.heap.size b off n cap p wh x1 x2 x3 x4 tx) (tl_bk8_up (zNew 0) c8.heap.size b off n cap p wh x1 x2 x3 x4 tx) rfl (by kernel_rfl) ?_) ?_
      · intro bb V a w' ha hB hF hon
        refine ⟨_, rfl, rfl, fun K hK => ?_⟩
        have e1 : a.tmps[1]? = some (.slice (some ⟨b, off, none⟩) n cap) := by rw [ha]; exact (putSel_off (by rfl)).trans rfl
        refine value_ (w1 := w') (v := .slice (some ⟨b, off, none⟩) n cap) rfl rfl ?_ (hK _ _ (Below.refl _ _) rfl)
        clear ha hF hon hK K
        go_simp
        all_goals first | rfl | (constructor <;> rfl)
      refine steps_cons (told_step 6 (tl_bk8_ok (zNew 0) c8.heap.size b off n cap p wh x1 x2 x3 x4 tx) (tl_bk8_up (zNew 0) c8.heap.size b off n cap p wh x1 x2 x3 x4 tx) rfl (by kernel_rfl) ?_) ?_
      · intro bb V a w' ha hB hF hon
        refine ⟨_, rfl, rfl, fun K hK => ?_⟩
        have e11 : a.tmps[11]? = some (.int .i64 p) := by rw [ha]; exact (putSel_off (by rfl)).trans rfl
        refine value_ (w1 := w') (v := .int .i64 p) rfl rfl ?_ (hK _ _ (Below.refl _ _) rfl)
        clear ha hF hon hK K
        go_simp
        all_goals first | rfl | (constructor <;> rfl)
      refine steps_cons (told_step 7 (tl_bk8_ok (zNew 0) c8.heap.size b off n cap p wh x1 x2 x3 x4 tx) (tl_bk8_up (zNew 0) c8.heap.size b off n cap p wh x1 x2 x3 x4 tx) rfl (by kernel_rfl) ?_) ?_
      · intro bb V a w' ha hB hF hon
        refine ⟨_, rfl, rfl, fun K hK => ?_⟩
        have e45 := told_get 5 (tl_bk8_ok (zNew 0) c8.heap.size b off n cap p wh x1 x2 x3 x4 tx) rfl ha (hon 5 (by kernel_rfl)) (by kernel_rfl)
        have F45 : V 5 = .slice (some ⟨b, off, none⟩) n cap := told_fact 5 hF rfl (hon 5 (by kernel_rfl))
        rw [F45] at e45
        have e46 := told_get 6 (tl_bk8_ok (zNew 0) c8.heap.size b off n cap p wh x1 x2 x3 x4 tx) rfl ha (hon 6 (by kernel_rfl)) (by kernel_rfl)
        have F46 : V 6 = .int .i64 p := told_fact 6 hF rfl (hon 6 (by kernel_rfl))
        rw [F46] at e46
        refine value_ (w1 := w') (v := .pointer (some ⟨b, off + p * 6, none⟩)) rfl rfl ?_ (hK _ _ (Below.refl _ _) rfl)
        clear ha hF hon hK K
        go_simp
        all_goals first | rfl | (constructor <;> rfl)
      refine steps_cons (told_step 8 (tl_bk8_ok (zNew 0) c8.heap.size b off n cap p wh x1 x2 x3 x4 tx) (tl_bk8_up (zNew 0) c8.heap.size b off n cap p wh x1 x2 x3 x4 tx) rfl (by kernel_rfl) ?_) ?_
      · intro bb V a w' ha hB hF hon
        refine ⟨_, rfl, rfl, fun K hK => ?_⟩
        have e47 := told_get 7 (tl_bk8_ok (zNew 0) c8.heap.size b off n cap p wh x1 x2 x3 x4 tx) rfl ha (hon 7 (by kernel_rfl)) (by kernel_rfl)
        have F47 : V 7 = .pointer (some ⟨b, off + p * 6, none⟩) := told_fact 7 hF rfl (hon 7 (by kernel_rfl))
        rw [F47] at e47
        refine value_ (w1 := w') (v := .pointer (some ⟨b, off + p * 6 + 5, none⟩)) rfl rfl ?_ (hK _ _ (Below.refl _ _) rfl)
        clear ha hF hon hK K
        go_simp
        all_goals first | rfl | (constructor <;> rfl)
      refine steps_cons (told_step 9 (tl_bk8_ok (zNew 0) c8.heap.size b off n cap p wh x1 x2 x3 x4 tx) (tl_bk8_up (zNew 0) c8.heap.size b off n cap p wh x1 x2 x3 x4 tx) rfl (by kernel_rfl) ?_) ?_
      · intro bb V a w' ha hB hF hon
        refine ⟨_, rfl, rfl, fun K hK => ?_⟩
        have e48 := told_get 8 (tl_bk8_ok (zNew 0) c8.heap.size b off n cap p wh x1 x2 x3 x4 tx) rfl ha (hon 8 (by kernel_rfl)) (by kernel_rfl)
        have F48 : V 8 = .pointer (some ⟨b, off + p * 6 + 5, none⟩) := told_fact 8 hF rfl (hon 8 (by kernel_rfl))
        rw [F48] at e48
        have hg := HROW.out.on hB
        have y5 := hg.c 5 _ rfl
        clear hg
        refine value_ (w1 := w') (v := .string tx) rfl rfl ?_ (hK _ _ (Below.refl _ _) rfl)
        clear ha hF hon hK K
        go_simp
        all_goals first | rfl | (constructor <;> rfl)
      refine steps_cons (told_step 10 (tl_bk8_ok (zNew 0) c8.heap.size b off n cap p wh x1 x2 x3 x4 tx) (tl_bk8_up (zNew 0) c8.heap.size b off n cap p wh x1 x2 x3 x4 tx) rfl (by kernel_rfl) ?_) ?_
      · intro bb V a w' ha hB hF hon
        refine ⟨_, rfl, rfl, fun K hK => ?_⟩
        have e44 := told_get 4 (tl_bk8_ok (zNew 0) c8.heap.size b off n cap p wh x1 x2 x3 x4 tx) rfl ha (hon 4 (by kernel_rfl)) (by kernel_rfl)
        have F44 : V 4 = .bool wh := told_fact 4 hF rfl (hon 4 (by kernel_rfl))
        rw [F44] at e44
        have e49 := told_get 9 (tl_bk8_ok (zNew 0) c8.heap.size b off n cap p wh x1 x2 x3 x4 tx) rfl ha (hon 9 (by kernel_rfl)) (by kernel_rfl)
        have F49 : V 9 = .string tx := told_fact 9 hF rfl (hon 9 (by kernel_rfl))
        rw [F49] at e49
        refine value_ (w1 := w') (v := .agg #[.bool wh, .int .i64 0, .int .i64 0, .int .i64 0, .int .i64 0, .string tx]) rfl rfl ?_ (hK _ _ (Below.refl _ _) rfl)
        clear ha hF hon hK K
        go_simp
        all_goals first | rfl | (constructor <;> rfl)
      refine steps_cons (told_step 11 (tl_bk8_ok (zNew 0) c8.heap.size b off n cap p wh x1 x2 x3 x4 tx) (tl_bk8_up (zNew 0) c8.heap.size b off n cap p wh x1 x2 x3 x4 tx) rfl (by kernel_rfl) ?_) ?_
      · intro bb V a w' ha hB hF hon
        refine ⟨_, rfl, rfl, fun K hK => ?_⟩
        refine value_ (w1 := w'.alloc (.cells #[.bool false, .int .i64 0, .int .i64 0, .int .i64 0, .int .i64 0, .string ⟨#[]⟩] 57)) (v := .pointer (some ⟨w'.heap.size, 0, none⟩)) rfl rfl ?_ (hK _ _ ((Below.refl _ _).alloc (Nat.le_refl _) _) (BOXV_new _ _ _ hB.size))
        clear ha hF hon hK K
        go_simp
        all_goals first | rfl | (constructor <;> rfl)
      refine steps_cons (told_last ?_ ?_) steps_nil
      · intro e he; simp only [tl_bk8, List.mem_cons, List.mem_nil_iff, or_false] at he; rcases he with rfl | rfl | rfl | rfl | rfl | rfl | rfl | rfl | rfl | rfl | rfl | rfl <;> kernel_rfl
      intro V a w' ha hB hF
      refine ⟨_, rfl, rfl, fun K hK => ?_⟩
      have e50 := told_get 10 (tl_bk8_ok (zNew 0) c8.heap.size b off n cap p wh x1 x2 x3 x4 tx) rfl ha rfl (by kernel_rfl)
      have F50 : V 10 = .agg #[.bool wh, .int .i64 0, .int .i64 0, .int .i64 0, .int .i64 0, .string tx] := hF _ (List.mem_of_getElem? (i := 10) rfl)
      rw [F50] at e50
      have e12 := told_get 11 (tl_bk8_ok (zNew 0) c8.heap.size b off n cap p wh x1 x2 x3 x4 tx) rfl ha rfl (by kernel_rfl)
      have F12 := hF _ (List.mem_of_getElem? (i := 11) rfl)
      obtain ⟨g12, hv12, hgC, hbk⟩ := F12
      rw [hv12] at e12
      have y0 := hbk.c 0 rfl
      have f0 := hbk.fr 0
      have y1 := hbk.c 1 rfl
      have f1 := hbk.fr 1
      have y2 := hbk.c 2 rfl
      have f2 := hbk.fr 2
      have y3 := hbk.c 3 rfl
      have f3 := hbk.fr 3
      have y4 := hbk.c 4 rfl
      have f4 := hbk.fr 4
      have y5 := hbk.c 5 rfl
      have f5 := hbk.fr 5
      refine skip_ (w1 := setAll g12 w' 0 [.bool wh, .int .i64 0, .int .i64 0, .int .i64 0, .int .i64 0, .string tx]) rfl rfl ?_ (hK _ _ ?_)
      · clear ha hF hK K
        go_simp
        all_goals first | rfl | (constructor <;> rfl)
      clear hK K hF e50 e12 y0 f0 y1 f1 y2 f2 y3 f3 y4 f4 y5 f5
      have hnb := hbk.all [.bool wh, .int .i64 0, .int .i64 0, .int .i64 0, .int .i64 0, .string tx] rfl
      have hbs := setAll_below g12 hgC [.bool wh, .int .i64 0, .int .i64 0, .int .i64 0, .int .i64 0, .string tx] w' 0 hB
      have HX12 := Lib.hid hnb
      have HG12 : Hid (H ≤ g12) := Lib.hid (Nat.le_trans HQ.out hgC)
      replace HBr := Lib.hid (HBr.out.trans (hbs.mono HQ.out))
      replace HROW := Lib.hid (HROW.out.on hbs)
      replace HQ := Lib.hid (Nat.le_trans HQ.out hbs.size)
      clear hnb hbs hgC
      generalize setAll g12 w' 0 [.bool wh, .int .i64 0, .int .i64 0, .int .i64 0, .int .i64 0, .string tx] = w8 at *
      rw [ha]
      clear ha hB hbk
      simp only [tl_bk8, Tolds.put, List.map_cons, List.map_nil, putSel, if_true, Act.put, List.setIfInBounds_toArray, List.set_cons_zero, List.set_cons_succ, hv12]
      clear hv12
      generalize V 0 = u0
      generalize V 1 = u1
      generalize V 2 = u2
      generalize V 3 = u3
      generalize V 4 = u4
      generalize V 5 = u5
      generalize V 6 = u6
      generalize V 7 = u7
      generalize V 8 = u8
      generalize V 9 = u9
      generalize V 10 = u10
      try clear V
      go_wp2_with fail
      refine start_ (n := 9) (S := fun w' => True) (ds := []) #[false, false, false, false, false, false, false, false, false] (by kernel_rfl) rfl rfl trivial (fun hHeld => ?_)
      clear hHeld
      have hb : Below w8.heap.size w8 w8.drew := (Below.refl _ _).drew
      replace HBr := Lib.hid (HBr.out.trans (hb.mono HQ.out))
      replace HROW := Lib.hid (HROW.out.on hb)
      replace HQ := Lib.hid (Nat.le_trans HQ.out hb.size)
      replace HX12 := Lib.hid (HX12.out.on hb)
      clear hb
      generalize w8.drew = c9 at *
      refine inv_ (B := [0, 0, 0, 4, 14, 30, 63, 0, 255]) [0, 1, 2, 3, 4, 5, 6, 7, 8] (ToldI _ (tl_bk9 (zNew 0) c9.heap.size g12 wh tx) 8 c9 _) rfl (by kernel_rfl) (by kernel_rfl) (by kernel_rfl) told_begin ?_ (told_end (by kernel_rfl))
      refine steps_cons (told_step 0 (tl_bk9_ok (zNew 0) c9.heap.size g12 wh tx) (tl_bk9_up (zNew 0) c9.heap.size g12 wh tx) rfl (by kernel_rfl) ?_) ?_
      · intro bb V a w' ha hB hF hon
        refine ⟨_, rfl, rfl, fun K hK => ?_⟩
        refine value_ (w1 := w'.alloc (.cells #[.string ⟨#[114, 97, 110, 103, 101, 76, 101, 110, 103, 116, 104]⟩, .string ⟨#[116, 101, 120, 116]⟩] 9)) (v := .slice (some ⟨w'.heap.size, 0, none⟩) 2 2) rfl rfl ?_ (hK _ _ ((Below.refl _ _).alloc (Nat.le_refl _) _) (BLKV_new _ _ _ _ hB.size))
        clear ha hF hon hK K
        go_simp
        all_goals first | rfl | (constructor <;> rfl)
      refine steps_cons (told_step 1 (tl_bk9_ok (zNew 0) c9.heap.size g12 wh tx) (tl_bk9_up (zNew 0) c9.heap.size g12 wh tx) rfl (by kernel_rfl) ?_) ?_
      · intro bb V a w' ha hB hF hon
        refine ⟨_, rfl, rfl, fun K hK => ?_⟩
        refine goes_ Tryz.func35 (by kernel_rfl) rfl #[.string ⟨#[57]⟩] rfl rfl rfl (by simp only [List.map_toArray, List.map_cons, List.map_nil, Act.eval, Array.getD_eq_getD_getElem?, Option.getD_some]) ?_
        refine (mNumber_any ⟨#[57]⟩ w').mono ?_
        rintro e w'' ⟨rfl, hb⟩
        exact ⟨_, rfl, hK _ w'' hb rfl⟩
      refine steps_cons (told_step 2 (tl_bk9_ok (zNew 0) c9.heap.size g12 wh tx) (tl_bk9_up (zNew 0) c9.heap.size g12 wh tx) rfl (by kernel_rfl) ?_) ?_
      · intro bb V a w' ha hB hF hon
        refine ⟨_, rfl, rfl, fun K hK => ?_⟩
        have e12 : a.tmps[12]? = some (.pointer (some ⟨g12, 0, none⟩)) := by rw [ha]; exact (putSel_off (by rfl)).trans rfl
        refine value_ (w1 := w') (v := .pointer (some ⟨g12, 5, none⟩)) rfl rfl ?_ (hK _ _ (Below.refl _ _) rfl)
        clear ha hF hon hK K
        go_simp
        all_goals first | rfl | (constructor <;> rfl)
      refine steps_cons (told_step 3 (tl_bk9_ok (zNew 0) c9.heap.size g12 wh tx) (tl_bk9_up (zNew 0) c9.heap.size g12 wh tx) rfl (by kernel_rfl) ?_) ?_
      · intro bb V a w' ha hB hF hon
        refine ⟨_, rfl, rfl, fun K hK => ?_⟩
        have e53 := told_get 2 (tl_bk9_ok (zNew 0) c9.heap.size g12 wh tx) rfl ha (hon 2 (by kernel_rfl)) (by kernel_rfl)
        have F53 : V 2 = .pointer (some ⟨g12, 5, none⟩) := told_fact 2 hF rfl (hon 2 (by kernel_rfl))
        rw [F53] at e53
        have hg := HX12.out.on hB
        have y5 := hg.c 5 rfl
        clear hg
        refine value_ (w1 := w') (v := .string tx) rfl rfl ?_ (hK _ _ (Below.refl _ _) rfl)
        clear ha hF hon hK K
        go_simp
        all_goals first | rfl | (constructor <;> rfl)
      refine steps_cons (told_step 4 (tl_bk9_ok (zNew 0) c9.heap.size g12 wh tx) (tl_bk9_up (zNew 0) c9.heap.size g12 wh tx) rfl (by kernel_rfl) ?_) ?_
      · intro bb V a w' ha hB hF hon
        refine ⟨_, rfl, rfl, fun K hK => ?_⟩
        have e54 := told_get 3 (tl_bk9_ok (zNew 0) c9.heap.size g12 wh tx) rfl ha (hon 3 (by kernel_rfl)) (by kernel_rfl)
        have F54 : V 3 = .string tx := told_fact 3 hF rfl (hon 3 (by kernel_rfl))
        rw [F54] at e54
        refine goes_ Tryz.func33 (by kernel_rfl) rfl #[.string tx] rfl rfl rfl (by simp only [List.map_toArray, List.map_cons, List.map_nil, Act.eval, Array.getD_eq_getD_getElem?, e54, Option.getD_some]) ?_
        refine (mText_any tx w').mono ?_
        rintro e w'' ⟨rfl, hb⟩
        exact ⟨_, rfl, hK _ w'' hb rfl⟩
      refine steps_cons (told_step 5 (tl_bk9_ok (zNew 0) c9.heap.size g12 wh tx) (tl_bk9_up (zNew 0) c9.heap.size g12 wh tx) rfl (by kernel_rfl) ?_) ?_
      · intro bb V a w' ha hB hF hon
        refine ⟨_, rfl, rfl, fun K hK => ?_⟩
        have e52 := told_get 1 (tl_bk9_ok (zNew 0) c9.heap.size g12 wh tx) rfl ha (hon 1 (by kernel_rfl)) (by kernel_rfl)
        have F52 : V 1 = .agg #[.int .i64 2, .bool false, .string ⟨#[57]⟩, .slice none 0 0, .slice none 0 0] := told_fact 1 hF rfl (hon 1 (by kernel_rfl))
        rw [F52] at e52
        have e55 := told_get 4 (tl_bk9_ok (zNew 0) c9.heap.size g12 wh tx) rfl ha (hon 4 (by kernel_rfl)) (by kernel_rfl)
        have F55 : V 4 = .agg #[.int .i64 3, .bool false, .string tx, .slice none 0 0, .slice none 0 0] := told_fact 4 hF rfl (hon 4 (by kernel_rfl))
        rw [F55] at e55
        refine value_ (w1 := w'.alloc (.cells #[.int .i64 2, .bool false, .string ⟨#[57]⟩, .slice none 0 0, .slice none 0 0, .int .i64 3, .bool false, .string tx, .slice none 0 0, .slice none 0 0] 30)) (v := .slice (some ⟨w'.heap.size, 0, none⟩) 2 2) rfl rfl ?_ (hK _ _ ((Below.refl _ _).alloc (Nat.le_refl _) _) (BLKV_new _ _ _ _ hB.size))
        clear ha hF hon hK K
        go_simp
        all_goals first | rfl | (constructor <;> rfl)
      refine steps_cons (told_step 6 (tl_bk9_ok (zNew 0) c9.heap.size g12 wh tx) (tl_bk9_up (zNew 0) c9.heap.size g12 wh tx) rfl (by kernel_rfl) ?_) ?_
      · intro bb V a w' ha hB hF hon
        refine ⟨_, rfl, rfl, fun K hK => ?_⟩
        have e51 := told_get 0 (tl_bk9_ok (zNew 0) c9.heap.size g12 wh tx) rfl ha (hon 0 (by kernel_rfl)) (by kernel_rfl)
        have F51 := told_fact 0 hF rfl (hon 0 (by kernel_rfl))
        have e56 := told_get 5 (tl_bk9_ok (zNew 0) c9.heap.size g12 wh tx) rfl ha (hon 5 (by kernel_rfl)) (by kernel_rfl)
        have F56 := told_fact 5 hF rfl (hon 5 (by kernel_rfl))
        refine goes_ Tryz.func32 (by kernel_rfl) rfl #[V 0, V 5] rfl rfl rfl (by simp only [List.map_toArray, List.map_cons, List.map_nil, Act.eval, Array.getD_eq_getD_getElem?, e51, e56, Option.getD_some]) ?_
        obtain ⟨q1, hq1, hq1c, hq1b⟩ := F51
        obtain ⟨q2, hq2, hq2c, hq2b⟩ := F56
        rw [hq1, hq2]
        refine (mObject_any _ _ _ _ _ _ w').mono ?_
        rintro e w'' ⟨rfl, hb⟩
        exact ⟨_, rfl, hK _ w'' hb ⟨q1, q2, rfl, hq1c, hq2c, hq1b.on hb, hq2b.on hb⟩⟩
      refine steps_cons (told_step 7 (tl_bk9_ok (zNew 0) c9.heap.size g12 wh tx) (tl_bk9_up (zNew 0) c9.heap.size g12 wh tx) rfl (by kernel_rfl) ?_) ?_
      · intro bb V a w' ha hB hF hon
        refine ⟨_, rfl, rfl, fun K hK => ?_⟩
        refine value_ (w1 := w'.alloc (.cells #[.int .i64 0, .bool false, .string ⟨#[]⟩, .slice none 0 0, .slice none 0 0] 30)) (v := .pointer (some ⟨w'.heap.size, 0, none⟩)) rfl rfl ?_ (hK _ _ ((Below.refl _ _).alloc (Nat.le_refl _) _) (BOXV_new _ _ _ hB.size))
        clear ha hF hon hK K
        go_simp
        all_goals first | rfl | (constructor <;> rfl)
      refine steps_cons (told_last ?_ ?_) steps_nil
      · intro e he; simp only [tl_bk9, List.mem_cons, List.mem_nil_iff, or_false] at he; rcases he with rfl | rfl | rfl | rfl | rfl | rfl | rfl | rfl <;> kernel_rfl
      intro V a w' ha hB hF
      refine ⟨_, rfl, rfl, fun K hK => ?_⟩
      have e57 := told_get 6 (tl_bk9_ok (zNew 0) c9.heap.size g12 wh tx) rfl ha rfl (by kernel_rfl)
      have F57 := hF _ (List.mem_of_getElem? (i := 6) rfl)
      have e13 := told_get 7 (tl_bk9_ok (zNew 0) c9.heap.size g12 wh tx) rfl ha rfl (by kernel_rfl)
      have F13 := hF _ (List.mem_of_getElem? (i := 7) rfl)
      obtain ⟨qn, ql, hv57, hqn, hql, bqn, bql⟩ := F57
      rw [hv57] at e57
      obtain ⟨g13, hv13, hgC, hbk⟩ := F13
      rw [hv13] at e13
      have y0 := hbk.c 0 rfl
      have f0 := hbk.fr 0
      have y1 := hbk.c 1 rfl
      have f1 := hbk.fr 1
      have y2 := hbk.c 2 rfl
      have f2 := hbk.fr 2
      have y3 := hbk.c 3 rfl
      have f3 := hbk.fr 3
      have y4 := hbk.c 4 rfl
      have f4 := hbk.fr 4
      refine skip_ (w1 := setAll g13 w' 0 [.int .i64 5, .bool false, .string ⟨#[]⟩, .slice (some ⟨ql, 0, none⟩) 2 2, .slice (some ⟨qn, 0, none⟩) 2 2]) rfl rfl ?_ (hK _ _ ?_)
      · clear ha hF hK K
        go_simp
        all_goals first | rfl | (constructor <;> rfl)
      clear hK K hF e57 e13 y0 f0 y1 f1 y2 f2 y3 f3 y4 f4
      have hnb := hbk.all [.int .i64 5, .bool false, .string ⟨#[]⟩, .slice (some ⟨ql, 0, none⟩) 2 2, .slice (some ⟨qn, 0, none⟩) 2 2] rfl
      have hbs := setAll_below g13 hgC [.int .i64 5, .bool false, .string ⟨#[]⟩, .slice (some ⟨ql, 0, none⟩) 2 2, .slice (some ⟨qn, 0, none⟩) 2 2] w' 0 hB
      have HX13 := Lib.hid hnb
      have HG13 : Hid (g12 < g13 ∧ g12 < qn ∧ g12 < ql ∧ g13 ≠ qn ∧ g13 ≠ ql ∧ qn ≠ ql) := Lib.hid (by
        have h12 := HX12.out.lt
        exact ⟨by omega, by omega, by omega, hbk.ne bqn (by decide), hbk.ne bql (by simp), bqn.ne bql (by simp)⟩)
      have HBN := Lib.hid ((setAll_same (S := fun b => b = qn) g13 [.int .i64 5, .bool false, .string ⟨#[]⟩, .slice (some ⟨ql, 0, none⟩) 2 2, .slice (some ⟨qn, 0, none⟩) 2 2] (fun b hb e => HG13.out.2.2.2.1 (by rw [← e, hb])) w' 0 qn rfl).trans bqn)
      have HBL := Lib.hid ((setAll_same (S := fun b => b = ql) g13 [.int .i64 5, .bool false, .string ⟨#[]⟩, .slice (some ⟨ql, 0, none⟩) 2 2, .slice (some ⟨qn, 0, none⟩) 2 2] (fun b hb e => HG13.out.2.2.2.2.1 (by rw [← e, hb])) w' 0 ql rfl).trans bql)
      have HQN : Hid (H ≤ qn ∧ H ≤ ql ∧ H ≤ g13) := Lib.hid ⟨Nat.le_trans HQ.out hqn, Nat.le_trans HQ.out hql, Nat.le_trans HQ.out hgC⟩
      replace HBr := Lib.hid (HBr.out.trans (hbs.mono HQ.out))
      replace HROW := Lib.hid (HROW.out.on hbs)
      replace HQ := Lib.hid (Nat.le_trans HQ.out hbs.size)
      replace HX12 := Lib.hid (HX12.out.on hbs)
      clear hnb hbs hgC hqn hql bqn bql
      generalize setAll g13 w' 0 [.int .i64 5, .bool false, .string ⟨#[]⟩, .slice (some ⟨ql, 0, none⟩) 2 2, .slice (some ⟨qn, 0, none⟩) 2 2] = w9 at *
      rw [ha]
      clear ha hB hbk
      simp only [tl_bk9, Tolds.put, List.map_cons, List.map_nil, putSel, if_true, Act.put, List.setIfInBounds_toArray, List.set_cons_zero, List.set_cons_succ, hv13, hv57]
      clear hv13 hv57
      generalize V 0 = u0
      generalize V 1 = u1
      generalize V 2 = u2
      generalize V 3 = u3
      generalize V 4 = u4
      generalize V 5 = u5
      try clear V
      replace HBN : Hid (BK w9 qn 9 #[.string ⟨#[114, 97, 110, 103, 101, 76, 101, 110, 103, 116, 104]⟩, .string ⟨#[116, 101, 120, 116]⟩]) := HBN
      replace HBL : Hid (BK w9 ql 30 #[.int .i64 2, .bool false, .string ⟨#[57]⟩, .slice none 0 0, .slice none 0 0, .int .i64 3, .bool false, .string tx, .slice none 0 0, .slice none 0 0]) := HBL
      replace HX13 : Hid (BK w9 g13 30 #[.int .i64 5, .bool false, .string ⟨#[]⟩, .slice (some ⟨ql, 0, none⟩) 2 2, .slice (some ⟨qn, 0, none⟩) 2 2]) := HX13
      have y0 := HX12.out.c 0 rfl
      cases wh
      rotate_left
      · skip
        have HVT : Hid (VAL w9 (fun b => H ≤ b ∧ b < w9.heap.size) ((fun j => ((l.map wantE).map (edT sw)).getD j .leaf) p) (.agg #[.int .i64 5, .bool false, .string ⟨#[]⟩, .slice (some ⟨ql, 0, none⟩) 2 2, .slice (some ⟨qn, 0, none⟩) 2 2])) := Lib.hid (Eq.mpr (congrArg (fun t => VAL w9 _ t _) HT.out) (VAL.shut (n := 2) (m := [⟨#[114, 97, 110, 103, 101, 76, 101, 110, 103, 116, 104]⟩, ⟨#[116, 101, 120, 116]⟩]) (c := fun j => [nmT ⟨#[57]⟩, txT tx].getD j .leaf) (by decide) (ts_of_bk HBN.out [⟨#[114, 97, 110, 103, 101, 76, 101, 110, 103, 116, 104]⟩, ⟨#[116, 101, 120, 116]⟩] rfl ⟨HQN.out.1, HBN.out.lt⟩) (vs_of_bk HBL.out [nmT ⟨#[57]⟩, txT tx] (VR.cons (VAL.shut (by decide) (.inl rfl) (.inl rfl)) (VR.cons (VAL.shut (by decide) (.inl rfl) (.inl rfl)) (VR.none _ _))) ⟨HQN.out.2.1, HBL.out.lt⟩)))
        go_upto_region 20 with (fail)
        clear y0
        have y0 := HX12.out.c 0 rfl
        have y1 := HX12.out.c 1 rfl
        have y2 := HX12.out.c 2 rfl
        have y3 := HX12.out.c 3 rfl
        have y4 := HX12.out.c 4 rfl
        have y5 := HX12.out.c 5 rfl
        have HMc := Lib.hid (HM.out.on HBr.out)
        go_wp2_with (at_builtin; refine wpList_append_lies _ rfl (.tmp 112) (.tmp 114) 40 rfl (w.heap.size + 1) 57 e0 _ 6 56 Tryz.underlying40 HE0.out HEZ0.out HEZ1.out HEZ2.out rfl (by omega) wv p (edCs ((l.take p).map wantE)) rfl (own_on HMc.out.wown (made_end _)) ⟨w9.heap.size, 0, none⟩ 1 1 [.bool true, .int .i64 0, .int .i64 0, .int .i64 0, .int .i64 0, .string tx] rfl rfl (World.news_of_block (heap_alloc_new w9 _)) (by intro u hu; simp only [List.mem_cons, List.mem_nil_iff, or_false] at hu; rcases hu with h | h | h | h | h | h <;> subst h <;> rfl) (by omega) (by unfold maxLen; omega) (by omega) (Nat.le_trans HMc.out.size.1 (Nat.le_trans HMc.out.size.2 (by simp))) _ rfl ?_)
        intro gw cw w20 hown1 hg1 hat1 hlt1
        clear y0 y1 y2 y3 y4 y5
        have HX20 : Hid (BK w20 g13 30 #[.int .i64 5, .bool false, .string ⟨#[]⟩, .slice (some ⟨ql, 0, none⟩) 2 2, .slice (some ⟨qn, 0, none⟩) 2 2]) := Lib.hid ((HMc.out.same20 hg1 g13 HX13.out.lt (fun e => by have := HMc.out.wlt _ e; have := HQN.out.2.2; omega)).trans HX13.out)
        have HE20 := Lib.hid (HMc.out.e20 hg1)
        have HS20 : Hid (w.heap.size + 1 ≤ w20.heap.size) := Lib.hid (by have h1 := hg1.size; have h2 := HMc.out.size; simp at h1; omega)
        have A1 := Lib.hid hown1
        have A2 := Lib.hid hg1
        have A3 := Lib.hid hat1
        clear hown1 hg1 hat1 hlt1
        have y0 := HX20.out.c 0 rfl
        have y1 := HX20.out.c 1 rfl
        have y2 := HX20.out.c 2 rfl
        have y3 := HX20.out.c 3 rfl
        have y4 := HX20.out.c 4 rfl
        go_wp2_with (at_builtin; refine wpList_append_lies _ rfl (.tmp 116) (.tmp 118) 28 rfl (w.heap.size + 1) 30 i0 _ 5 80 Tryz.underlying28 HI0.out HIZ0.out HIZ1.out HIZ2.out rfl (by omega) ev p xs rfl (own_on HE20.out (made_end _)) ⟨w20.heap.size, 0, none⟩ 1 1 [.int .i64 5, .bool false, .string ⟨#[]⟩, .slice (some ⟨ql, 0, none⟩) 2 2, .slice (some ⟨qn, 0, none⟩) 2 2] rfl rfl (World.news_of_block (heap_alloc_new w20 _)) (by intro u hu; simp only [List.mem_cons, List.mem_nil_iff, or_false] at hu; rcases hu with h | h | h | h | h <;> subst h <;> rfl) (by omega) (by unfold maxLen; omega) (by omega) (Nat.le_trans HS20.out (by simp)) _ rfl ?_)
        intro ge ce w21 hown2 hg2 hat2 hlt2
        clear y0 y1 y2 y3 y4
        have HF := Lib.hid (HMc.out.step HVT.out (by have := A1.out; exact this) A2.out A3.out hown2 hg2 hat2)
        clear A2 A3 hown2 hg2 hat2 hlt2 A1
        go_wp2
        go_roundg (gk - 1)
        case measure => have := HPQ.out; have := HLT.out; omega
        case rel => exact ⟨p + 1, _, _, _, by have := HPQ.out; have := HLT.out; omega, by go_num, rfl, rfl, (by have := HF.out; have e := HWS.out; rw [← e, List.map_take]; exact this)⟩
      · skip
        go_wp2_with fail
        clear y0
        refine start_ (n := 17) (S := fun w' => True) (ds := []) #[false, false, false, false, false, false, false, false, false, false, false, false, false, false, false, false, false] (by kernel_rfl) rfl rfl trivial (fun hHeld => ?_)
        clear hHeld
        have hb : Below w9.heap.size w9 w9.drew := (Below.refl _ _).drew
        replace HX13 := Lib.hid (HX13.out.on hb)
        replace HBN := Lib.hid (HBN.out.on hb)
        replace HBL := Lib.hid (HBL.out.on hb)
        replace HBr := Lib.hid (HBr.out.trans (hb.mono HQ.out))
        replace HROW := Lib.hid (HROW.out.on hb)
        replace HQ := Lib.hid (Nat.le_trans HQ.out hb.size)
        replace HX12 := Lib.hid (HX12.out.on hb)
        clear hb
        generalize w9.drew = c11 at *
        refine inv_ (B := [0, 0, 3, 7, 15, 31, 63, 0, 0, 384, 896, 1920, 3968, 8191, 16383, 32767, 65535]) [0, 1, 2, 3, 4, 5, 6, 7, 8, 9, 10, 11, 12, 13, 14, 15, 16] (ToldI _ (tl_bk11 (zNew 0) b off n cap p g12 x1 x2 x3 x4 tx) 16 c11 _) rfl (by kernel_rfl) (by kernel_rfl) (by kernel_rfl) told_begin ?_ (told_end (by kernel_rfl))
        refine steps_cons (told_step 0 (tl_bk11_ok (zNew 0) b off n cap p g12 x1 x2 x3 x4 tx) (tl_bk11_up (zNew 0) b off n cap p g12 x1 x2 x3 x4 tx) rfl (by kernel_rfl) ?_) ?_
        · intro bb V a w' ha hB hF hon
          refine ⟨_, rfl, rfl, fun K hK => ?_⟩
          have e1 : a.tmps[1]? = some (.slice (some ⟨b, off, none⟩) n cap) := by rw [ha]; exact (putSel_off (by rfl)).trans rfl
          refine value_ (w1 := w') (v := .slice (some ⟨b, off, none⟩) n cap) rfl rfl ?_ (hK _ _ (Below.refl _ _) rfl)
          clear ha hF hon hK K
          go_simp
          all_goals first | rfl | (constructor <;> rfl)
        refine steps_cons (told_step 1 (tl_bk11_ok (zNew 0) b off n cap p g12 x1 x2 x3 x4 tx) (tl_bk11_up (zNew 0) b off n cap p g12 x1 x2 x3 x4 tx) rfl (by kernel_rfl) ?_) ?_
        · intro bb V a w' ha hB hF hon
          refine ⟨_, rfl, rfl, fun K hK => ?_⟩
          have e11 : a.tmps[11]? = some (.int .i64 p) := by rw [ha]; exact (putSel_off (by rfl)).trans rfl
          refine value_ (w1 := w') (v := .int .i64 p) rfl rfl ?_ (hK _ _ (Below.refl _ _) rfl)
          clear ha hF hon hK K
          go_simp
          all_goals first | rfl | (constructor <;> rfl)
        refine steps_cons (told_step 2 (tl_bk11_ok (zNew 0) b off n cap p g12 x1 x2 x3 x4 tx) (tl_bk11_up (zNew 0) b off n cap p g12 x1 x2 x3 x4 tx) rfl (by kernel_rfl) ?_) ?_
        · intro bb V a w' ha hB hF hon
          refine ⟨_, rfl, rfl, fun K hK => ?_⟩
          have e61 := told_get 0 (tl_bk11_ok (zNew 0) b off n cap p g12 x1 x2 x3 x4 tx) rfl ha (hon 0 (by kernel_rfl)) (by kernel_rfl)
          have F61 : V 0 = .slice (some ⟨b, off, none⟩) n cap := told_fact 0 hF rfl (hon 0 (by kernel_rfl))
          rw [F61] at e61
          have e62 := told_get 1 (tl_bk11_ok (zNew 0) b off n cap p g12 x1 x2 x3 x4 tx) rfl ha (hon 1 (by kernel_rfl)) (by kernel_rfl)
          have F62 : V 1 = .int .i64 p := told_fact 1 hF rfl (hon 1 (by kernel_rfl))
          rw [F62] at e62
          refine value_ (w1 := w') (v := .pointer (some ⟨b, off + p * 6, none⟩)) rfl rfl ?_ (hK _ _ (Below.refl _ _) rfl)
          clear ha hF hon hK K
          go_simp
          all_goals first | rfl | (constructor <;> rfl)
        refine steps_cons (told_step 3 (tl_bk11_ok (zNew 0) b off n cap p g12 x1 x2 x3 x4 tx) (tl_bk11_up (zNew 0) b off n cap p g12 x1 x2 x3 x4 tx) rfl (by kernel_rfl) ?_) ?_
        · intro bb V a w' ha hB hF hon
          refine ⟨_, rfl, rfl, fun K hK => ?_⟩
          have e63 := told_get 2 (tl_bk11_ok (zNew 0) b off n cap p g12 x1 x2 x3 x4 tx) rfl ha (hon 2 (by kernel_rfl)) (by kernel_rfl)
          have F63 : V 2 = .pointer (some ⟨b, off + p * 6, none⟩) := told_fact 2 hF rfl (hon 2 (by kernel_rfl))
          rw [F63] at e63
          refine value_ (w1 := w') (v := .pointer (some ⟨b, off + p * 6 + 1, none⟩)) rfl rfl ?_ (hK _ _ (Below.refl _ _) rfl)
          clear ha hF hon hK K
          go_simp
          all_goals first | rfl | (constructor <;> rfl)
        refine steps_cons (told_step 4 (tl_bk11_ok (zNew 0) b off n cap p g12 x1 x2 x3 x4 tx) (tl_bk11_up (zNew 0) b off n cap p g12 x1 x2 x3 x4 tx) rfl (by kernel_rfl) ?_) ?_
        · intro bb V a w' ha hB hF hon
          refine ⟨_, rfl, rfl, fun K hK => ?_⟩
          have e64 := told_get 3 (tl_bk11_ok (zNew 0) b off n cap p g12 x1 x2 x3 x4 tx) rfl ha (hon 3 (by kernel_rfl)) (by kernel_rfl)
          have F64 : V 3 = .pointer (some ⟨b, off + p * 6 + 1, none⟩) := told_fact 3 hF rfl (hon 3 (by kernel_rfl))
          rw [F64] at e64
          refine value_ (w1 := w') (v := .pointer (some ⟨b, off + p * 6 + 1, none⟩)) rfl rfl ?_ (hK _ _ (Below.refl _ _) rfl)
          clear ha hF hon hK K
          go_simp
          all_goals first | rfl | (constructor <;> rfl)
        refine steps_cons (told_step 5 (tl_bk11_ok (zNew 0) b off n cap p g12 x1 x2 x3 x4 tx) (tl_bk11_up (zNew 0) b off n cap p g12 x1 x2 x3 x4 tx) rfl (by kernel_rfl) ?_) ?_
        · intro bb V a w' ha hB hF hon
          refine ⟨_, rfl, rfl, fun K hK => ?_⟩
          have e65 := told_get 4 (tl_bk11_ok (zNew 0) b off n cap p g12 x1 x2 x3 x4 tx) rfl ha (hon 4 (by kernel_rfl)) (by kernel_rfl)
          have F65 : V 4 = .pointer (some ⟨b, off + p * 6 + 1, none⟩) := told_fact 4 hF rfl (hon 4 (by kernel_rfl))
          rw [F65] at e65
          have hg := HROW.out.on hB
          have y1 := hg.c 1 _ rfl
          have y2 := hg.c 2 _ rfl
          clear hg
          refine value_ (w1 := w') (v := .agg #[.int .i64 x1, .int .i64 x2]) rfl rfl ?_ (hK _ _ (Below.refl _ _) rfl)
          clear ha hF hon hK K
          go_simp
          all_goals first | rfl | (constructor <;> rfl)
        refine steps_cons (told_step 6 (tl_bk11_ok (zNew 0) b off n cap p g12 x1 x2 x3 x4 tx) (tl_bk11_up (zNew 0) b off n cap p g12 x1 x2 x3 x4 tx) rfl (by kernel_rfl) ?_) ?_
        · intro bb V a w' ha hB hF hon
          refine ⟨_, rfl, rfl, fun K hK => ?_⟩
          have e66 := told_get 5 (tl_bk11_ok (zNew 0) b off n cap p g12 x1 x2 x3 x4 tx) rfl ha (hon 5 (by kernel_rfl)) (by kernel_rfl)
          have F66 : V 5 = .agg #[.int .i64 x1, .int .i64 x2] := told_fact 5 hF rfl (hon 5 (by kernel_rfl))
          rw [F66] at e66
          refine goes_ Tryz.func36 (by kernel_rfl) rfl #[.agg #[.int .i64 x1, .int .i64 x2]] rfl rfl rfl (by simp only [List.map_toArray, List.map_cons, List.map_nil, Act.eval, Array.getD_eq_getD_getElem?, e66, Option.getD_some]) ?_
          refine (far_any x1 x2 w' HOK.out.1 HOK.out.2.1).mono ?_
          rintro e w'' ⟨rfl, hb⟩
          exact ⟨_, rfl, hK _ w'' hb rfl⟩
        refine steps_cons (told_step 7 (tl_bk11_ok (zNew 0) b off n cap p g12 x1 x2 x3 x4 tx) (tl_bk11_up (zNew 0) b off n cap p g12 x1 x2 x3 x4 tx) rfl (by kernel_rfl) ?_) ?_
        · intro bb V a w' ha hB hF hon
          refine ⟨_, rfl, rfl, fun K hK => ?_⟩
          have e1 : a.tmps[1]? = some (.slice (some ⟨b, off, none⟩) n cap) := by rw [ha]; exact (putSel_off (by rfl)).trans rfl
          refine value_ (w1 := w') (v := .slice (some ⟨b, off, none⟩) n cap) rfl rfl ?_ (hK _ _ (Below.refl _ _) rfl)
          clear ha hF hon hK K
          go_simp
          all_goals first | rfl | (constructor <;> rfl)
        refine steps_cons (told_step 8 (tl_bk11_ok (zNew 0) b off n cap p g12 x1 x2 x3 x4 tx) (tl_bk11_up (zNew 0) b off n cap p g12 x1 x2 x3 x4 tx) rfl (by kernel_rfl) ?_) ?_
        · intro bb V a w' ha hB hF hon
          refine ⟨_, rfl, rfl, fun K hK => ?_⟩
          have e11 : a.tmps[11]? = some (.int .i64 p) := by rw [ha]; exact (putSel_off (by rfl)).trans rfl
          refine value_ (w1 := w') (v := .int .i64 p) rfl rfl ?_ (hK _ _ (Below.refl _ _) rfl)
          clear ha hF hon hK K
          go_simp
          all_goals first | rfl | (constructor <;> rfl)
        refine steps_cons (told_step 9 (tl_bk11_ok (zNew 0) b off n cap p g12 x1 x2 x3 x4 tx) (tl_bk11_up (zNew 0) b off n cap p g12 x1 x2 x3 x4 tx) rfl (by kernel_rfl) ?_) ?_
        · intro bb V a w' ha hB hF hon
          refine ⟨_, rfl, rfl, fun K hK => ?_⟩
          have e68 := told_get 7 (tl_bk11_ok (zNew 0) b off n cap p g12 x1 x2 x3 x4 tx) rfl ha (hon 7 (by kernel_rfl)) (by kernel_rfl)
          have F68 : V 7 = .slice (some ⟨b, off, none⟩) n cap := told_fact 7 hF rfl (hon 7 (by kernel_rfl))
          rw [F68] at e68
          have e69 := told_get 8 (tl_bk11_ok (zNew 0) b off n cap p g12 x1 x2 x3 x4 tx) rfl ha (hon 8 (by kernel_rfl)) (by kernel_rfl)
          have F69 : V 8 = .int .i64 p := told_fact 8 hF rfl (hon 8 (by kernel_rfl))
          rw [F69] at e69
          refine value_ (w1 := w') (v := .pointer (some ⟨b, off + p * 6, none⟩)) rfl rfl ?_ (hK _ _ (Below.refl _ _) rfl)
          clear ha hF hon hK K
          go_simp
          all_goals first | rfl | (constructor <;> rfl)
        refine steps_cons (told_step 10 (tl_bk11_ok (zNew 0) b off n cap p g12 x1 x2 x3 x4 tx) (tl_bk11_up (zNew 0) b off n cap p g12 x1 x2 x3 x4 tx) rfl (by kernel_rfl) ?_) ?_
        · intro bb V a w' ha hB hF hon
          refine ⟨_, rfl, rfl, fun K hK => ?_⟩
          have e70 := told_get 9 (tl_bk11_ok (zNew 0) b off n cap p g12 x1 x2 x3 x4 tx) rfl ha (hon 9 (by kernel_rfl)) (by kernel_rfl)
          have F70 : V 9 = .pointer (some ⟨b, off + p * 6, none⟩) := told_fact 9 hF rfl (hon 9 (by kernel_rfl))
          rw [F70] at e70
          refine value_ (w1 := w') (v := .pointer (some ⟨b, off + p * 6 + 1, none⟩)) rfl rfl ?_ (hK _ _ (Below.refl _ _) rfl)
          clear ha hF hon hK K
          go_simp
          all_goals first | rfl | (constructor <;> rfl)
        refine steps_cons (told_step 11 (tl_bk11_ok (zNew 0) b off n cap p g12 x1 x2 x3 x4 tx) (tl_bk11_up (zNew 0) b off n cap p g12 x1 x2 x3 x4 tx) rfl (by kernel_rfl) ?_) ?_
        · intro bb V a w' ha hB hF hon
          refine ⟨_, rfl, rfl, fun K hK => ?_⟩
          have e71 := told_get 10 (tl_bk11_ok (zNew 0) b off n cap p g12 x1 x2 x3 x4 tx) rfl ha (hon 10 (by kernel_rfl)) (by kernel_rfl)
          have F71 : V 10 = .pointer (some ⟨b, off + p * 6 + 1, none⟩) := told_fact 10 hF rfl (hon 10 (by kernel_rfl))
          rw [F71] at e71
          refine value_ (w1 := w') (v := .pointer (some ⟨b, off + p * 6 + 3, none⟩)) rfl rfl ?_ (hK _ _ (Below.refl _ _) rfl)
          clear ha hF hon hK K
          go_simp
          all_goals first | rfl | (constructor <;> rfl)
        refine steps_cons (told_step 12 (tl_bk11_ok (zNew 0) b off n cap p g12 x1 x2 x3 x4 tx) (tl_bk11_up (zNew 0) b off n cap p g12 x1 x2 x3 x4 tx) rfl (by kernel_rfl) ?_) ?_
        · intro bb V a w' ha hB hF hon
          refine ⟨_, rfl, rfl, fun K hK => ?_⟩
          have e72 := told_get 11 (tl_bk11_ok (zNew 0) b off n cap p g12 x1 x2 x3 x4 tx) rfl ha (hon 11 (by kernel_rfl)) (by kernel_rfl)
          have F72 : V 11 = .pointer (some ⟨b, off + p * 6 + 3, none⟩) := told_fact 11 hF rfl (hon 11 (by kernel_rfl))
          rw [F72] at e72
          have hg := HROW.out.on hB
          have y3 := hg.c 3 _ rfl
          have y4 := hg.c 4 _ rfl
          clear hg
          refine value_ (w1 := w') (v := .agg #[.int .i64 x3, .int .i64 x4]) rfl rfl ?_ (hK _ _ (Below.refl _ _) rfl)
          clear ha hF hon hK K
          go_simp
          all_goals first | rfl | (constructor <;> rfl)
        refine steps_cons (told_step 13 (tl_bk11_ok (zNew 0) b off n cap p g12 x1 x2 x3 x4 tx) (tl_bk11_up (zNew 0) b off n cap p g12 x1 x2 x3 x4 tx) rfl (by kernel_rfl) ?_) ?_
        · intro bb V a w' ha hB hF hon
          refine ⟨_, rfl, rfl, fun K hK => ?_⟩
          have e73 := told_get 12 (tl_bk11_ok (zNew 0) b off n cap p g12 x1 x2 x3 x4 tx) rfl ha (hon 12 (by kernel_rfl)) (by kernel_rfl)
          have F73 : V 12 = .agg #[.int .i64 x3, .int .i64 x4] := told_fact 12 hF rfl (hon 12 (by kernel_rfl))
          rw [F73] at e73
          refine goes_ Tryz.func36 (by kernel_rfl) rfl #[.agg #[.int .i64 x3, .int .i64 x4]] rfl rfl rfl (by simp only [List.map_toArray, List.map_cons, List.map_nil, Act.eval, Array.getD_eq_getD_getElem?, e73, Option.getD_some]) ?_
          refine (far_any x3 x4 w' HOK.out.2.2.1 HOK.out.2.2.2).mono ?_
          rintro e w'' ⟨rfl, hb⟩
          exact ⟨_, rfl, hK _ w'' hb rfl⟩
        refine steps_cons (told_step 14 (tl_bk11_ok (zNew 0) b off n cap p g12 x1 x2 x3 x4 tx) (tl_bk11_up (zNew 0) b off n cap p g12 x1 x2 x3 x4 tx) rfl (by kernel_rfl) ?_) ?_
        · intro bb V a w' ha hB hF hon
          refine ⟨_, rfl, rfl, fun K hK => ?_⟩
          have e67 := told_get 6 (tl_bk11_ok (zNew 0) b off n cap p g12 x1 x2 x3 x4 tx) rfl ha (hon 6 (by kernel_rfl)) (by kernel_rfl)
          have F67 : V 6 = .agg #[.int .i64 (x1 % 2147483648), .int .i64 (x2 % 2147483648)] := told_fact 6 hF rfl (hon 6 (by kernel_rfl))
          rw [F67] at e67
          have e74 := told_get 13 (tl_bk11_ok (zNew 0) b off n cap p g12 x1 x2 x3 x4 tx) rfl ha (hon 13 (by kernel_rfl)) (by kernel_rfl)
          have F74 : V 13 = .agg #[.int .i64 (x3 % 2147483648), .int .i64 (x4 % 2147483648)] := told_fact 13 hF rfl (hon 13 (by kernel_rfl))
          rw [F74] at e74
          refine value_ (w1 := w') (v := .agg #[.int .i64 (x1 % 2147483648), .int .i64 (x2 % 2147483648), .int .i64 (x3 % 2147483648), .int .i64 (x4 % 2147483648)]) rfl rfl ?_ (hK _ _ (Below.refl _ _) rfl)
          clear ha hF hon hK K
          go_simp
          all_goals first | rfl | (constructor <;> rfl)
        refine steps_cons (told_step 15 (tl_bk11_ok (zNew 0) b off n cap p g12 x1 x2 x3 x4 tx) (tl_bk11_up (zNew 0) b off n cap p g12 x1 x2 x3 x4 tx) rfl (by kernel_rfl) ?_) ?_
        · intro bb V a w' ha hB hF hon
          refine ⟨_, rfl, rfl, fun K hK => ?_⟩
          have e12 : a.tmps[12]? = some (.pointer (some ⟨g12, 0, none⟩)) := by rw [ha]; exact (putSel_off (by rfl)).trans rfl
          refine value_ (w1 := w') (v := .pointer (some ⟨g12, 1, none⟩)) rfl rfl ?_ (hK _ _ (Below.refl _ _) rfl)
          clear ha hF hon hK K
          go_simp
          all_goals first | rfl | (constructor <;> rfl)
        refine steps_cons (told_last ?_ ?_) steps_nil
        · intro e he; simp only [tl_bk11, List.mem_cons, List.mem_nil_iff, or_false] at he; rcases he with rfl | rfl | rfl | rfl | rfl | rfl | rfl | rfl | rfl | rfl | rfl | rfl | rfl | rfl | rfl | rfl <;> kernel_rfl
        intro V a w' ha hB hF
        refine ⟨_, rfl, rfl, fun K hK => ?_⟩
        have e75 := told_get 14 (tl_bk11_ok (zNew 0) b off n cap p g12 x1 x2 x3 x4 tx) rfl ha rfl (by kernel_rfl)
        have F75 : V 14 = .agg #[.int .i64 (x1 % 2147483648), .int .i64 (x2 % 2147483648), .int .i64 (x3 % 2147483648), .int .i64 (x4 % 2147483648)] := hF _ (List.mem_of_getElem? (i := 14) rfl)
        rw [F75] at e75
        have e76 := told_get 15 (tl_bk11_ok (zNew 0) b off n cap p g12 x1 x2 x3 x4 tx) rfl ha rfl (by kernel_rfl)
        have F76 : V 15 = .pointer (some ⟨g12, 1, none⟩) := hF _ (List.mem_of_getElem? (i := 15) rfl)
        rw [F76] at e76
        have hg := HX12.out.on hB
        have y1 := hg.c 1 rfl
        have f1 := hg.fr 1
        have y2 := hg.c 2 rfl
        have f2 := hg.fr 2
        have y3 := hg.c 3 rfl
        have f3 := hg.fr 3
        have y4 := hg.c 4 rfl
        have f4 := hg.fr 4
        refine skip_ (w1 := setAll g12 w' 1 [.int .i64 (x1 % 2147483648), .int .i64 (x2 % 2147483648), .int .i64 (x3 % 2147483648), .int .i64 (x4 % 2147483648)]) rfl rfl ?_ (hK _ _ ?_)
        · clear ha hF hK K
          go_simp
          all_goals first | rfl | (constructor <;> rfl)
        clear hK K hF e75 e76 y1 f1 y2 f2 y3 f3 y4 f4
        have hnb : BK (setAll g12 w' 1 [.int .i64 (x1 % 2147483648), .int .i64 (x2 % 2147483648), .int .i64 (x3 % 2147483648), .int .i64 (x4 % 2147483648)]) g12 57 #[.bool false, .int .i64 (x1 % 2147483648), .int .i64 (x2 % 2147483648), .int .i64 (x3 % 2147483648), .int .i64 (x4 % 2147483648), .string tx] := (((hg.set 1 _ rfl).set 2 _ rfl).set 3 _ rfl).set 4 _ rfl
        have hsz := setAll_size g12 [.int .i64 (x1 % 2147483648), .int .i64 (x2 % 2147483648), .int .i64 (x3 % 2147483648), .int .i64 (x4 % 2147483648)] w' 1
        have hbs := setAll_below g12 HG12.out [.int .i64 (x1 % 2147483648), .int .i64 (x2 % 2147483648), .int .i64 (x3 % 2147483648), .int .i64 (x4 % 2147483648)] w' 1 (HBr.out.trans (hB.mono HQ.out))
        replace HX13 := Lib.hid ((setAll_same (S := fun b => b = g13) g12 [.int .i64 (x1 % 2147483648), .int .i64 (x2 % 2147483648), .int .i64 (x3 % 2147483648), .int .i64 (x4 % 2147483648)] (fun b hb e => by have := HG13.out.1; omega) w' 1 g13 rfl).trans (HX13.out.on hB))
        replace HBN := Lib.hid ((setAll_same (S := fun b => b = qn) g12 [.int .i64 (x1 % 2147483648), .int .i64 (x2 % 2147483648), .int .i64 (x3 % 2147483648), .int .i64 (x4 % 2147483648)] (fun b hb e => by have := HG13.out.2.1; omega) w' 1 qn rfl).trans (HBN.out.on hB))
        replace HBL := Lib.hid ((setAll_same (S := fun b => b = ql) g12 [.int .i64 (x1 % 2147483648), .int .i64 (x2 % 2147483648), .int .i64 (x3 % 2147483648), .int .i64 (x4 % 2147483648)] (fun b hb e => by have := HG13.out.2.2.1; omega) w' 1 ql rfl).trans (HBL.out.on hB))
        replace HX12 := Lib.hid hnb
        replace HBr := Lib.hid hbs
        replace HQ := Lib.hid (Nat.le_trans HQ.out (Nat.le_trans hB.size (Nat.le_of_eq hsz.symm)))
        clear hnb hbs hsz hg HROW
        generalize setAll g12 w' 1 [.int .i64 (x1 % 2147483648), .int .i64 (x2 % 2147483648), .int .i64 (x3 % 2147483648), .int .i64 (x4 % 2147483648)] = w11 at *
        rw [ha]
        clear ha hB
        simp only [tl_bk11, Tolds.put, List.map_cons, List.map_nil, putSel, if_true, Act.put, List.setIfInBounds_toArray, List.set_cons_zero, List.set_cons_succ]
        generalize V 0 = u0
        generalize V 1 = u1
        generalize V 2 = u2
        generalize V 3 = u3
        generalize V 4 = u4
        generalize V 5 = u5
        generalize V 6 = u6
        generalize V 7 = u7
        generalize V 8 = u8
        generalize V 9 = u9
        generalize V 10 = u10
        generalize V 11 = u11
        generalize V 12 = u12
        generalize V 13 = u13
        generalize V 14 = u14
        generalize V 15 = u15
        try clear V
        replace HBN : Hid (BK w11 qn 9 #[.string ⟨#[114, 97, 110, 103, 101, 76, 101, 110, 103, 116, 104]⟩, .string ⟨#[116, 101, 120, 116]⟩]) := HBN
        replace HBL : Hid (BK w11 ql 30 #[.int .i64 2, .bool false, .string ⟨#[57]⟩, .slice none 0 0, .slice none 0 0, .int .i64 3, .bool false, .string tx, .slice none 0 0, .slice none 0 0]) := HBL
        replace HX13 : Hid (BK w11 g13 30 #[.int .i64 5, .bool false, .string ⟨#[]⟩, .slice (some ⟨ql, 0, none⟩) 2 2, .slice (some ⟨qn, 0, none⟩) 2 2]) := HX13
        have y1 := HX12.out.c 1 rfl
        have y2 := HX12.out.c 2 rfl
        have y3 := HX12.out.c 3 rfl
        have y4 := HX12.out.c 4 rfl
        have HMb := Lib.hid (HM.out.on HBr.out)
        have HG11 : Hid (H ≤ w11.heap.size ∧ g12 < w11.heap.size ∧ g13 < w11.heap.size ∧ qn < w11.heap.size ∧ ql < w11.heap.size) := Lib.hid ⟨HQ.out, HX12.out.lt, HX13.out.lt, HBN.out.lt, HBL.out.lt⟩
        go_wp2_with fail
        clear y1 y2 y3 y4
        refine (pRange _ _ _ _ w11 (far_64 x1) (far_64 x2) (far_64 x3) (far_64 x4) (HPT.out.on HMb.out.below)).mono ?_
        rintro e w12 ⟨v, rfl, hv, hb⟩
        replace HX12 := Lib.hid (HX12.out.on hb)
        replace HX13 := Lib.hid (HX13.out.on hb)
        replace HBN := Lib.hid (HBN.out.on hb)
        replace HBL := Lib.hid (HBL.out.on hb)
        replace HBr := Lib.hid (HBr.out.trans (hb.mono HQ.out))
        have HQ11 := HQ
        replace HQ := Lib.hid (Nat.le_trans HQ.out hb.size)
        have HSZ12 := Lib.hid hb.size
        clear HMb hb
        have hv2 : ∃ Ar capr An capn, v = .agg #[.int .i64 5, .bool false, .string ⟨#[]⟩, .slice Ar 2 capr, .slice An 2 capn] ∧ TS w12 (New w11 w12) An [VT.startN, VT.endN] ∧ VS w12 (New w11 w12) Ar 2 (fun j => [posT (x1 % 2147483648) (x2 % 2147483648), posT (x3 % 2147483648) (x4 % 2147483648)].getD j .leaf) := by
          obtain ⟨A, c, A', c', e, -, k1, k2⟩ := hv.open
          exact ⟨A, c, A', c', e, k1, k2⟩
        obtain ⟨Ar, capr, An, capn, rfl, hts, hvs⟩ := hv2
        have HTN : Hid (TS w12 (fun b => w11.heap.size ≤ b ∧ b < w12.heap.size) An [VT.startN, VT.endN]) := Lib.hid hts
        have HVV : Hid (VS w12 (fun b => w11.heap.size ≤ b ∧ b < w12.heap.size) Ar 2 (fun j => [posT (x1 % 2147483648) (x2 % 2147483648), posT (x3 % 2147483648) (x4 % 2147483648)].getD j .leaf)) := Lib.hid hvs
        clear hv hts hvs
        go_upto_region 13 with (fail)
        have hb := made_end (w := w12) (.cells #[.int .i64 5, .bool false, .string ⟨#[]⟩, .slice Ar 2 capr, .slice An 2 capn] 30)
        have HX14 : Hid (BK (w12.alloc (.cells #[.int .i64 5, .bool false, .string ⟨#[]⟩, .slice Ar 2 capr, .slice An 2 capn] 30)) w12.heap.size 30 #[.int .i64 5, .bool false, .string ⟨#[]⟩, .slice Ar 2 capr, .slice An 2 capn]) := Lib.hid (BK.new w12 _ _)
        have HG14 : Hid (w11.heap.size ≤ w12.heap.size ∧ w12.heap.size < (w12.alloc (.cells #[.int .i64 5, .bool false, .string ⟨#[]⟩, .slice Ar 2 capr, .slice An 2 capn] 30)).heap.size) := Lib.hid ⟨HSZ12.out, by simp⟩
        replace HTN := Lib.hid (HTN.out.on (fun b h => h.2) hb)
        replace HVV := Lib.hid (HVV.out.on (fun b h => h.2) hb)
        replace HX12 := Lib.hid (HX12.out.on hb)
        replace HX13 := Lib.hid (HX13.out.on hb)
        replace HBN := Lib.hid (HBN.out.on hb)
        replace HBL := Lib.hid (HBL.out.on hb)
        replace HBr := Lib.hid (HBr.out.trans (hb.mono HQ.out))
        replace HQ := Lib.hid (Nat.le_trans HQ.out hb.size)
        clear hb HSZ12 HQ11
        generalize (w12.alloc (.cells #[.int .i64 5, .bool false, .string ⟨#[]⟩, .slice Ar 2 capr, .slice An 2 capn] 30)) = w14 at *
        generalize w12.heap.size = g14 at *
        generalize w11.heap.size = m at *
        obtain ⟨br, ofr, p0, p1, p2, p3, p4, p5, p6, p7, p8, p9, rfl, hbr, hrow, hv0, hv1⟩ := row_two HVV.out (fun b hb => by have := HG14.out; omega)
        have HR2 := Lib.hid hrow
        have HV0 : Hid (VAL w14 (fun b => m ≤ b ∧ b < g14) (posT (x1 % 2147483648) (x2 % 2147483648)) (.agg #[p0, p1, p2, p3, p4])) := Lib.hid hv0
        have HV1 : Hid (VAL w14 (fun b => m ≤ b ∧ b < g14) (posT (x3 % 2147483648) (x4 % 2147483648)) (.agg #[p5, p6, p7, p8, p9])) := Lib.hid hv1
        have HBR := Lib.hid hbr
        clear hrow hv0 hv1 hbr
        have y3 := HX14.out.c 3 rfl
        have HMc := Lib.hid (HM.out.on HBr.out)
        have k1 := HMc.out.how.c 1 rfl
        go_wp2_with fail
        clear y3 k1 HMc
        refine (Bring2_any h1 2 w14 Q1.out (by omega)).mono ?_
        rintro e w15 ⟨rfl, hb⟩
        replace HX14 := Lib.hid (HX14.out.on hb)
        replace HTN := Lib.hid (HTN.out.on (fun b h => by have := HG14.out; omega) hb)
        replace HVV := Lib.hid (HVV.out.on (fun b h => by have := HG14.out; omega) hb)
        replace HR2 := Lib.hid (HR2.out.on hb)
        replace HV0 := Lib.hid (HV0.out.on (fun b h => by have := HG14.out; omega) hb)
        replace HV1 := Lib.hid (HV1.out.on (fun b h => by have := HG14.out; omega) hb)
        replace HG14 := Lib.hid (And.intro HG14.out.1 (Nat.lt_of_lt_of_le HG14.out.2 hb.size))
        replace HX12 := Lib.hid (HX12.out.on hb)
        replace HX13 := Lib.hid (HX13.out.on hb)
        replace HBN := Lib.hid (HBN.out.on hb)
        replace HBL := Lib.hid (HBL.out.on hb)
        replace HBr := Lib.hid (HBr.out.trans (hb.mono HQ.out))
        replace HQ := Lib.hid (Nat.le_trans HQ.out hb.size)
        clear hb
        have hd := HSW.out
        generalize h1 % 2 = qz at hd ⊢
        rcases Bool.eq_false_or_eq_true sw with hsw | hsw
        · skip
          rw [hsw] at hd
          obtain rfl : qz = 1 := of_decide_eq_true hd
          clear hd
          have hb := made_end (w := w15) (.cells #[.string ⟨#[101, 110, 100]⟩, .string ⟨#[120]⟩, .string ⟨#[115, 116, 97, 114, 116]⟩] 9)
          have y4 := (HX14.out.on hb).c 4 rfl
          have f4 := (HX14.out.on hb).fr 4
          go_upto_region 17 with (fail)
          clear y4 f4
          have SB : ∀ b, b < w15.heap.size → b ≠ g14 → ((w15.alloc (.cells #[.string ⟨#[101, 110, 100]⟩, .string ⟨#[120]⟩, .string ⟨#[115, 116, 97, 114, 116]⟩] 9)).setCell ⟨g14, 4, none⟩ (.slice (some ⟨w15.heap.size, 0, none⟩) 3 3)).heap[b]? = w15.heap[b]? := fun b hlt hne => (Below.heap_setCell _ ⟨g14, 4, none⟩ _ b hne).trans (hb.block b hlt)
          have HNM : Hid (BK ((w15.alloc (.cells #[.string ⟨#[101, 110, 100]⟩, .string ⟨#[120]⟩, .string ⟨#[115, 116, 97, 114, 116]⟩] 9)).setCell ⟨g14, 4, none⟩ (.slice (some ⟨w15.heap.size, 0, none⟩) 3 3)) w15.heap.size 9 #[.string ⟨#[101, 110, 100]⟩, .string ⟨#[120]⟩, .string ⟨#[115, 116, 97, 114, 116]⟩]) := Lib.hid ((BK.new w15 _ _).far _ (by have := HG14.out; show w15.heap.size ≠ g14; omega))
          have hbs : Below H wr ((w15.alloc (.cells #[.string ⟨#[101, 110, 100]⟩, .string ⟨#[120]⟩, .string ⟨#[115, 116, 97, 114, 116]⟩] 9)).setCell ⟨g14, 4, none⟩ (.slice (some ⟨w15.heap.size, 0, none⟩) 3 3)) := (HBr.out.trans (hb.mono HQ.out)).setCell (p := ⟨g14, 4, none⟩) (by have := HG11.out; have := HG14.out; show H ≤ g14; omega) _
          have HX14' : Hid (BK ((w15.alloc (.cells #[.string ⟨#[101, 110, 100]⟩, .string ⟨#[120]⟩, .string ⟨#[115, 116, 97, 114, 116]⟩] 9)).setCell ⟨g14, 4, none⟩ (.slice (some ⟨w15.heap.size, 0, none⟩) 3 3)) g14 30 #[.int .i64 5, .bool false, .string ⟨#[]⟩, .slice (some ⟨br, ofr, none⟩) 2 capr, .slice (some ⟨w15.heap.size, 0, none⟩) 3 3]) := Lib.hid ((HX14.out.on hb).set 4 _ rfl)
          have HG16 : Hid (g14 < w15.heap.size ∧ w15.heap.size < ((w15.alloc (.cells #[.string ⟨#[101, 110, 100]⟩, .string ⟨#[120]⟩, .string ⟨#[115, 116, 97, 114, 116]⟩] 9)).setCell ⟨g14, 4, none⟩ (.slice (some ⟨w15.heap.size, 0, none⟩) 3 3)).heap.size) := Lib.hid ⟨HG14.out.2, HNM.out.lt⟩
          have hsz : w15.heap.size ≤ ((w15.alloc (.cells #[.string ⟨#[101, 110, 100]⟩, .string ⟨#[120]⟩, .string ⟨#[115, 116, 97, 114, 116]⟩] 9)).setCell ⟨g14, 4, none⟩ (.slice (some ⟨w15.heap.size, 0, none⟩) 3 3)).heap.size := Nat.le_of_lt HG16.out.2
          replace HX12 := Lib.hid (HX12.out.eq (SB g12 HX12.out.lt (by have := HG11.out; have := HG13.out; have := HG14.out; omega)))
          replace HX13 := Lib.hid (HX13.out.eq (SB g13 HX13.out.lt (by have := HG11.out; have := HG13.out; have := HG14.out; omega)))
          replace HBN := Lib.hid (HBN.out.eq (SB qn HBN.out.lt (by have := HG11.out; have := HG13.out; have := HG14.out; omega)))
          replace HBL := Lib.hid (HBL.out.eq (SB ql HBL.out.lt (by have := HG11.out; have := HG13.out; have := HG14.out; omega)))
          replace HR2 := Lib.hid (HR2.out.same (SB br HR2.out.lt (by have := HBR.out; omega)))
          replace HV0 := Lib.hid (HV0.out.same (fun b hz => SB b (by have := HG14.out; omega) (by omega)))
          replace HV1 := Lib.hid (HV1.out.same (fun b hz => SB b (by have := HG14.out; omega) (by omega)))
          replace HBr := Lib.hid hbs
          replace HQ := Lib.hid (Nat.le_trans HQ.out hsz)
          clear HX14 HTN HVV SB hbs hb hsz
          have HX14 := HX14'
          clear HX14'
          generalize ((w15.alloc (.cells #[.string ⟨#[101, 110, 100]⟩, .string ⟨#[120]⟩, .string ⟨#[115, 116, 97, 114, 116]⟩] 9)).setCell ⟨g14, 4, none⟩ (.slice (some ⟨w15.heap.size, 0, none⟩) 3 3)) = w16 at *
          generalize w15.heap.size = n16 at *
          go_wp2_with fail
          refine start_ (n := 12) (S := fun w' => True) (ds := []) #[false, false, false, false, false, false, false, false, false, false, false, false] (by kernel_rfl) rfl rfl trivial (fun hHeld => ?_)
          clear hHeld
          have hb : Below w16.heap.size w16 w16.drew := (Below.refl _ _).drew
          replace HX13 := Lib.hid (HX13.out.on hb)
          replace HBN := Lib.hid (HBN.out.on hb)
          replace HBL := Lib.hid (HBL.out.on hb)
          replace HX12 := Lib.hid (HX12.out.on hb)
          replace HX14 := Lib.hid (HX14.out.on hb)
          replace HNM := Lib.hid (HNM.out.on hb)
          replace HR2 := Lib.hid (HR2.out.on hb)
          replace HV0 := Lib.hid (HV0.out.on (fun b h => by have := HG16.out; omega) hb)
          replace HV1 := Lib.hid (HV1.out.on (fun b h => by have := HG16.out; omega) hb)
          replace HG16 := Lib.hid (And.intro HG16.out.1 (Nat.lt_of_lt_of_le HG16.out.2 hb.size))
          replace HBr := Lib.hid (HBr.out.trans (hb.mono HQ.out))
          replace HQ := Lib.hid (Nat.le_trans HQ.out hb.size)
          clear hb
          generalize w16.drew = c17 at *
          refine inv_ (B := [0, 1, 3, 7, 0, 0, 32, 96, 224, 511, 1023, 2047]) [0, 1, 2, 3, 4, 5, 6, 7, 8, 9, 10, 11] (ToldI _ (tl_bk17 (zNew 0) c17.heap.size br ofr capr n16 g14 p0 p1 p2 p3 p4 p5 p6 p7 p8 p9) 11 c17 _) rfl (by kernel_rfl) (by kernel_rfl) (by kernel_rfl) told_begin ?_ (told_end (by kernel_rfl))
          refine steps_cons (told_step 0 (tl_bk17_ok (zNew 0) c17.heap.size br ofr capr n16 g14 p0 p1 p2 p3 p4 p5 p6 p7 p8 p9) (tl_bk17_up (zNew 0) c17.heap.size br ofr capr n16 g14 p0 p1 p2 p3 p4 p5 p6 p7 p8 p9) rfl (by kernel_rfl) ?_) ?_
          · intro bb V a w' ha hB hF hon
            refine ⟨_, rfl, rfl, fun K hK => ?_⟩
            have e14 : a.tmps[14]? = some (.pointer (some ⟨g14, 0, none⟩)) := by rw [ha]; exact (putSel_off (by rfl)).trans rfl
            refine value_ (w1 := w') (v := .pointer (some ⟨g14, 3, none⟩)) rfl rfl ?_ (hK _ _ (Below.refl _ _) rfl)
            clear ha hF hon hK K
            go_simp
            all_goals first | rfl | (constructor <;> rfl)
          refine steps_cons (told_step 1 (tl_bk17_ok (zNew 0) c17.heap.size br ofr capr n16 g14 p0 p1 p2 p3 p4 p5 p6 p7 p8 p9) (tl_bk17_up (zNew 0) c17.heap.size br ofr capr n16 g14 p0 p1 p2 p3 p4 p5 p6 p7 p8 p9) rfl (by kernel_rfl) ?_) ?_
          · intro bb V a w' ha hB hF hon
            refine ⟨_, rfl, rfl, fun K hK => ?_⟩
            have e90 := told_get 0 (tl_bk17_ok (zNew 0) c17.heap.size br ofr capr n16 g14 p0 p1 p2 p3 p4 p5 p6 p7 p8 p9) rfl ha (hon 0 (by kernel_rfl)) (by kernel_rfl)
            have F90 : V 0 = .pointer (some ⟨g14, 3, none⟩) := told_fact 0 hF rfl (hon 0 (by kernel_rfl))
            rw [F90] at e90
            have hg := HX14.out.on hB
            have y3 := hg.c 3 rfl
            clear hg
            refine value_ (w1 := w') (v := .slice (some ⟨br, ofr, none⟩) 2 capr) rfl rfl ?_ (hK _ _ (Below.refl _ _) rfl)
            clear ha hF hon hK K
            go_simp
            all_goals first | rfl | (constructor <;> rfl)
          refine steps_cons (told_step 2 (tl_bk17_ok (zNew 0) c17.heap.size br ofr capr n16 g14 p0 p1 p2 p3 p4 p5 p6 p7 p8 p9) (tl_bk17_up (zNew 0) c17.heap.size br ofr capr n16 g14 p0 p1 p2 p3 p4 p5 p6 p7 p8 p9) rfl (by kernel_rfl) ?_) ?_
          · intro bb V a w' ha hB hF hon
            refine ⟨_, rfl, rfl, fun K hK => ?_⟩
            have e91 := told_get 1 (tl_bk17_ok (zNew 0) c17.heap.size br ofr capr n16 g14 p0 p1 p2 p3 p4 p5 p6 p7 p8 p9) rfl ha (hon 1 (by kernel_rfl)) (by kernel_rfl)
            have F91 : V 1 = .slice (some ⟨br, ofr, none⟩) 2 capr := told_fact 1 hF rfl (hon 1 (by kernel_rfl))
            rw [F91] at e91
            refine value_ (w1 := w') (v := .pointer (some ⟨br, ofr + 5, none⟩)) rfl rfl ?_ (hK _ _ (Below.refl _ _) rfl)
            clear ha hF hon hK K
            go_simp
            all_goals first | rfl | (constructor <;> rfl)
          refine steps_cons (told_step 3 (tl_bk17_ok (zNew 0) c17.heap.size br ofr capr n16 g14 p0 p1 p2 p3 p4 p5 p6 p7 p8 p9) (tl_bk17_up (zNew 0) c17.heap.size br ofr capr n16 g14 p0 p1 p2 p3 p4 p5 p6 p7 p8 p9) rfl (by kernel_rfl) ?_) ?_
          · intro bb V a w' ha hB hF hon
            refine ⟨_, rfl, rfl, fun K hK => ?_⟩
            have e92 := told_get 2 (tl_bk17_ok (zNew 0) c17.heap.size br ofr capr n16 g14 p0 p1 p2 p3 p4 p5 p6 p7 p8 p9) rfl ha (hon 2 (by kernel_rfl)) (by kernel_rfl)
            have F92 : V 2 = .pointer (some ⟨br, ofr + 5, none⟩) := told_fact 2 hF rfl (hon 2 (by kernel_rfl))
            rw [F92] at e92
            have hg := HR2.out.on hB
            have y5 := hg.c 5 _ rfl
            have y6 := hg.c 6 _ rfl
            have y7 := hg.c 7 _ rfl
            have y8 := hg.c 8 _ rfl
            have y9 := hg.c 9 _ rfl
            clear hg
            refine value_ (w1 := w') (v := .agg #[p5, p6, p7, p8, p9]) rfl rfl ?_ (hK _ _ (Below.refl _ _) rfl)
            clear ha hF hon hK K
            go_simp
            all_goals first | rfl | (constructor <;> rfl)
          refine steps_cons (told_step 4 (tl_bk17_ok (zNew 0) c17.heap.size br ofr capr n16 g14 p0 p1 p2 p3 p4 p5 p6 p7 p8 p9) (tl_bk17_up (zNew 0) c17.heap.size br ofr capr n16 g14 p0 p1 p2 p3 p4 p5 p6 p7 p8 p9) rfl (by kernel_rfl) ?_) ?_
          · intro bb V a w' ha hB hF hon
            refine ⟨_, rfl, rfl, fun K hK => ?_⟩
            refine goes_ Tryz.func33 (by kernel_rfl) rfl #[.string ⟨#[121]⟩] rfl rfl rfl (by simp only [List.map_toArray, List.map_cons, List.map_nil, Act.eval, Array.getD_eq_getD_getElem?, Option.getD_some]) ?_
            refine (mText_any ⟨#[121]⟩ w').mono ?_
            rintro e w'' ⟨rfl, hb⟩
            exact ⟨_, rfl, hK _ w'' hb rfl⟩
          refine steps_cons (told_step 5 (tl_bk17_ok (zNew 0) c17.heap.size br ofr capr n16 g14 p0 p1 p2 p3 p4 p5 p6 p7 p8 p9) (tl_bk17_up (zNew 0) c17.heap.size br ofr capr n16 g14 p0 p1 p2 p3 p4 p5 p6 p7 p8 p9) rfl (by kernel_rfl) ?_) ?_
          · intro bb V a w' ha hB hF hon
            refine ⟨_, rfl, rfl, fun K hK => ?_⟩
            have e14 : a.tmps[14]? = some (.pointer (some ⟨g14, 0, none⟩)) := by rw [ha]; exact (putSel_off (by rfl)).trans rfl
            refine value_ (w1 := w') (v := .pointer (some ⟨g14, 3, none⟩)) rfl rfl ?_ (hK _ _ (Below.refl _ _) rfl)
            clear ha hF hon hK K
            go_simp
            all_goals first | rfl | (constructor <;> rfl)
          refine steps_cons (told_step 6 (tl_bk17_ok (zNew 0) c17.heap.size br ofr capr n16 g14 p0 p1 p2 p3 p4 p5 p6 p7 p8 p9) (tl_bk17_up (zNew 0) c17.heap.size br ofr capr n16 g14 p0 p1 p2 p3 p4 p5 p6 p7 p8 p9) rfl (by kernel_rfl) ?_) ?_
          · intro bb V a w' ha hB hF hon
            refine ⟨_, rfl, rfl, fun K hK => ?_⟩
            have e95 := told_get 5 (tl_bk17_ok (zNew 0) c17.heap.size br ofr capr n16 g14 p0 p1 p2 p3 p4 p5 p6 p7 p8 p9) rfl ha (hon 5 (by kernel_rfl)) (by kernel_rfl)
            have F95 : V 5 = .pointer (some ⟨g14, 3, none⟩) := told_fact 5 hF rfl (hon 5 (by kernel_rfl))
            rw [F95] at e95
            have hg := HX14.out.on hB
            have y3 := hg.c 3 rfl
            clear hg
            refine value_ (w1 := w') (v := .slice (some ⟨br, ofr, none⟩) 2 capr) rfl rfl ?_ (hK _ _ (Below.refl _ _) rfl)
            clear ha hF hon hK K
            go_simp
            all_goals first | rfl | (constructor <;> rfl)
          refine steps_cons (told_step 7 (tl_bk17_ok (zNew 0) c17.heap.size br ofr capr n16 g14 p0 p1 p2 p3 p4 p5 p6 p7 p8 p9) (tl_bk17_up (zNew 0) c17.heap.size br ofr capr n16 g14 p0 p1 p2 p3 p4 p5 p6 p7 p8 p9) rfl (by kernel_rfl) ?_) ?_
          · intro bb V a w' ha hB hF hon
            refine ⟨_, rfl, rfl, fun K hK => ?_⟩
            have e96 := told_get 6 (tl_bk17_ok (zNew 0) c17.heap.size br ofr capr n16 g14 p0 p1 p2 p3 p4 p5 p6 p7 p8 p9) rfl ha (hon 6 (by kernel_rfl)) (by kernel_rfl)
            have F96 : V 6 = .slice (some ⟨br, ofr, none⟩) 2 capr := told_fact 6 hF rfl (hon 6 (by kernel_rfl))
            rw [F96] at e96
            refine value_ (w1 := w') (v := .pointer (some ⟨br, ofr, none⟩)) rfl rfl ?_ (hK _ _ (Below.refl _ _) rfl)
            clear ha hF hon hK K
            go_simp
            all_goals first | rfl | (constructor <;> rfl)
          refine steps_cons (told_step 8 (tl_bk17_ok (zNew 0) c17.heap.size br ofr capr n16 g14 p0 p1 p2 p3 p4 p5 p6 p7 p8 p9) (tl_bk17_up (zNew 0) c17.heap.size br ofr capr n16 g14 p0 p1 p2 p3 p4 p5 p6 p7 p8 p9) rfl (by kernel_rfl) ?_) ?_
          · intro bb V a w' ha hB hF hon
            refine ⟨_, rfl, rfl, fun K hK => ?_⟩
            have e97 := told_get 7 (tl_bk17_ok (zNew 0) c17.heap.size br ofr capr n16 g14 p0 p1 p2 p3 p4 p5 p6 p7 p8 p9) rfl ha (hon 7 (by kernel_rfl)) (by kernel_rfl)
            have F97 : V 7 = .pointer (some ⟨br, ofr, none⟩) := told_fact 7 hF rfl (hon 7 (by kernel_rfl))
            rw [F97] at e97
            have hg := HR2.out.on hB
            have y0 := hg.c0 _ rfl
            have y1 := hg.c 1 _ rfl
            have y2 := hg.c 2 _ rfl
            have y3 := hg.c 3 _ rfl
            have y4 := hg.c 4 _ rfl
            clear hg
            refine value_ (w1 := w') (v := .agg #[p0, p1, p2, p3, p4]) rfl rfl ?_ (hK _ _ (Below.refl _ _) rfl)
            clear ha hF hon hK K
            go_simp
            all_goals first | rfl | (constructor <;> rfl)
          refine steps_cons (told_step 9 (tl_bk17_ok (zNew 0) c17.heap.size br ofr capr n16 g14 p0 p1 p2 p3 p4 p5 p6 p7 p8 p9) (tl_bk17_up (zNew 0) c17.heap.size br ofr capr n16 g14 p0 p1 p2 p3 p4 p5 p6 p7 p8 p9) rfl (by kernel_rfl) ?_) ?_
          · intro bb V a w' ha hB hF hon
            refine ⟨_, rfl, rfl, fun K hK => ?_⟩
            have e93 := told_get 3 (tl_bk17_ok (zNew 0) c17.heap.size br ofr capr n16 g14 p0 p1 p2 p3 p4 p5 p6 p7 p8 p9) rfl ha (hon 3 (by kernel_rfl)) (by kernel_rfl)
            have F93 : V 3 = .agg #[p5, p6, p7, p8, p9] := told_fact 3 hF rfl (hon 3 (by kernel_rfl))
            rw [F93] at e93
            have e94 := told_get 4 (tl_bk17_ok (zNew 0) c17.heap.size br ofr capr n16 g14 p0 p1 p2 p3 p4 p5 p6 p7 p8 p9) rfl ha (hon 4 (by kernel_rfl)) (by kernel_rfl)
            have F94 : V 4 = .agg #[.int .i64 3, .bool false, .string ⟨#[121]⟩, .slice none 0 0, .slice none 0 0] := told_fact 4 hF rfl (hon 4 (by kernel_rfl))
            rw [F94] at e94
            have e98 := told_get 8 (tl_bk17_ok (zNew 0) c17.heap.size br ofr capr n16 g14 p0 p1 p2 p3 p4 p5 p6 p7 p8 p9) rfl ha (hon 8 (by kernel_rfl)) (by kernel_rfl)
            have F98 : V 8 = .agg #[p0, p1, p2, p3, p4] := told_fact 8 hF rfl (hon 8 (by kernel_rfl))
            rw [F98] at e98
            refine value_ (w1 := w'.alloc (.cells #[p5, p6, p7, p8, p9, .int .i64 3, .bool false, .string ⟨#[121]⟩, .slice none 0 0, .slice none 0 0, p0, p1, p2, p3, p4] 30)) (v := .slice (some ⟨w'.heap.size, 0, none⟩) 3 3) rfl rfl ?_ (hK _ _ ((Below.refl _ _).alloc (Nat.le_refl _) _) (BLKV_new _ _ _ _ hB.size))
            clear ha hF hon hK K
            go_simp
            all_goals first | rfl | (constructor <;> rfl)
          refine steps_cons (told_step 10 (tl_bk17_ok (zNew 0) c17.heap.size br ofr capr n16 g14 p0 p1 p2 p3 p4 p5 p6 p7 p8 p9) (tl_bk17_up (zNew 0) c17.heap.size br ofr capr n16 g14 p0 p1 p2 p3 p4 p5 p6 p7 p8 p9) rfl (by kernel_rfl) ?_) ?_
          · intro bb V a w' ha hB hF hon
            refine ⟨_, rfl, rfl, fun K hK => ?_⟩
            have e14 : a.tmps[14]? = some (.pointer (some ⟨g14, 0, none⟩)) := by rw [ha]; exact (putSel_off (by rfl)).trans rfl
            refine value_ (w1 := w') (v := .pointer (some ⟨g14, 3, none⟩)) rfl rfl ?_ (hK _ _ (Below.refl _ _) rfl)
            clear ha hF hon hK K
            go_simp
            all_goals first | rfl | (constructor <;> rfl)
          refine steps_cons (told_last ?_ ?_) steps_nil
          · intro e he; simp only [tl_bk17, List.mem_cons, List.mem_nil_iff, or_false] at he; rcases he with rfl | rfl | rfl | rfl | rfl | rfl | rfl | rfl | rfl | rfl | rfl <;> kernel_rfl
          intro V a w' ha hB hF
          refine ⟨_, rfl, rfl, fun K hK => ?_⟩
          have e99 := told_get 9 (tl_bk17_ok (zNew 0) c17.heap.size br ofr capr n16 g14 p0 p1 p2 p3 p4 p5 p6 p7 p8 p9) rfl ha rfl (by kernel_rfl)
          have F99 := hF _ (List.mem_of_getElem? (i := 9) rfl)
          obtain ⟨l17, hv99, hlC, hlb⟩ := F99
          rw [hv99] at e99
          have e100 := told_get 10 (tl_bk17_ok (zNew 0) c17.heap.size br ofr capr n16 g14 p0 p1 p2 p3 p4 p5 p6 p7 p8 p9) rfl ha rfl (by kernel_rfl)
          have F100 : V 10 = .pointer (some ⟨g14, 3, none⟩) := hF _ (List.mem_of_getElem? (i := 10) rfl)
          rw [F100] at e100
          have hg := HX14.out.on hB
          have y3 := hg.c 3 rfl
          have f3 := hg.fr 3
          refine skip_ (w1 := (w'.setCell ⟨g14, 3, none⟩ (.slice (some ⟨l17, 0, none⟩) 3 3))) rfl rfl ?_ (hK _ _ ?_)
          · clear ha hF hK K
            go_simp
            all_goals first | rfl | (constructor <;> rfl)
          clear hK K hF e99 e100 y3 f3
          have HX14' : Hid (BK (w'.setCell ⟨g14, 3, none⟩ (.slice (some ⟨l17, 0, none⟩) 3 3)) g14 30 #[.int .i64 5, .bool false, .string ⟨#[]⟩, .slice (some ⟨l17, 0, none⟩) 3 3, .slice (some ⟨n16, 0, none⟩) 3 3]) := Lib.hid (hg.set 3 _ rfl)
          have SB : ∀ b, b < c17.heap.size → b ≠ g14 → (w'.setCell ⟨g14, 3, none⟩ (.slice (some ⟨l17, 0, none⟩) 3 3)).heap[b]? = c17.heap[b]? := fun b hlt hne => (Below.heap_setCell _ ⟨g14, 3, none⟩ _ b hne).trans (hB.block b hlt)
          have HL17 : Hid (BK (w'.setCell ⟨g14, 3, none⟩ (.slice (some ⟨l17, 0, none⟩) 3 3)) l17 30 #[p5, p6, p7, p8, p9, .int .i64 3, .bool false, .string ⟨#[121]⟩, .slice none 0 0, .slice none 0 0, p0, p1, p2, p3, p4]) := Lib.hid (hlb.far _ (by have := HX14.out.lt; show l17 ≠ g14; omega))
          have hbs : Below H wr (w'.setCell ⟨g14, 3, none⟩ (.slice (some ⟨l17, 0, none⟩) 3 3)) := (HBr.out.trans (hB.mono HQ.out)).setCell (p := ⟨g14, 3, none⟩) (by have := HG11.out; have := HG14.out; show H ≤ g14; omega) _
          have hsz : c17.heap.size ≤ (w'.setCell ⟨g14, 3, none⟩ (.slice (some ⟨l17, 0, none⟩) 3 3)).heap.size := Nat.le_trans hB.size (by simp)
          have HL0 : Hid (c17.heap.size ≤ l17 ∧ l17 < (w'.setCell ⟨g14, 3, none⟩ (.slice (some ⟨l17, 0, none⟩) 3 3)).heap.size ∧ g14 < c17.heap.size) := Lib.hid ⟨hlC, HL17.out.lt, HX14.out.lt⟩
          replace HX12 := Lib.hid (HX12.out.eq (SB g12 HX12.out.lt (by have := HG11.out; have := HG13.out; have := HG14.out; omega)))
          replace HX13 := Lib.hid (HX13.out.eq (SB g13 HX13.out.lt (by have := HG11.out; have := HG13.out; have := HG14.out; omega)))
          replace HBN := Lib.hid (HBN.out.eq (SB qn HBN.out.lt (by have := HG11.out; have := HG13.out; have := HG14.out; omega)))
          replace HBL := Lib.hid (HBL.out.eq (SB ql HBL.out.lt (by have := HG11.out; have := HG13.out; have := HG14.out; omega)))
          replace HNM := Lib.hid (HNM.out.eq (SB n16 HNM.out.lt (by have := HG16.out; omega)))
          replace HV0 := Lib.hid (HV0.out.same (fun b hz => SB b (by have := HL0.out; omega) (by omega)))
          replace HV1 := Lib.hid (HV1.out.same (fun b hz => SB b (by have := HL0.out; omega) (by omega)))
          replace HBr := Lib.hid hbs
          replace HQ := Lib.hid (Nat.le_trans HQ.out hsz)
          clear HX14 HR2 SB hbs hsz hg hlb hlC
          have HX14 := HX14'
          clear HX14'
          have HG17 : Hid (g14 < n16 ∧ n16 < (w'.setCell ⟨g14, 3, none⟩ (.slice (some ⟨l17, 0, none⟩) 3 3)).heap.size ∧ l17 < (w'.setCell ⟨g14, 3, none⟩ (.slice (some ⟨l17, 0, none⟩) 3 3)).heap.size ∧ g14 < l17 ∧ g14 < (w'.setCell ⟨g14, 3, none⟩ (.slice (some ⟨l17, 0, none⟩) 3 3)).heap.size) := Lib.hid ⟨HG16.out.1, HNM.out.lt, HL17.out.lt, by have := HL0.out; omega, HX14.out.lt⟩
          generalize (w'.setCell ⟨g14, 3, none⟩ (.slice (some ⟨l17, 0, none⟩) 3 3)) = w17 at *
          rw [ha]
          clear ha hB HL0
          simp only [tl_bk17, Tolds.put, List.map_cons, List.map_nil, putSel, if_true, Act.put, List.setIfInBounds_toArray, List.set_cons_zero, List.set_cons_succ, hv99]
          clear hv99
          generalize V 0 = u0
          generalize V 1 = u1
          generalize V 2 = u2
          generalize V 3 = u3
          generalize V 4 = u4
          generalize V 5 = u5
          generalize V 6 = u6
          generalize V 7 = u7
          generalize V 8 = u8
          generalize V 10 = u10
          try clear V
          have HRV : Hid (VAL w17 (fun b => m ≤ b ∧ b < w17.heap.size ∧ b ≠ g14) (rngT sw (x1 % 2147483648) (x2 % 2147483648) (x3 % 2147483648) (x4 % 2147483648)) (.agg #[.int .i64 5, .bool false, .string ⟨#[]⟩, .slice (some ⟨l17, 0, none⟩) 3 3, .slice (some ⟨n16, 0, none⟩) 3 3])) := Lib.hid (by
            rw [hsw]
            exact VAL.shut (n := 3) (m := [VT.endN, xN, VT.startN]) (c := fun j => [posT (x3 % 2147483648) (x4 % 2147483648), txT ⟨#[121]⟩, posT (x1 % 2147483648) (x2 % 2147483648)].getD j .leaf) (by decide) (ts_of_bk HNM.out [VT.endN, xN, VT.startN] rfl (by have := HG11.out; have := HG14.out; have := HG17.out; omega)) (vs_of_bk HL17.out [posT (x3 % 2147483648) (x4 % 2147483648), txT ⟨#[121]⟩, posT (x1 % 2147483648) (x2 % 2147483648)] (VR.cons (HV1.out.mono (fun b h => by have := HG17.out; omega)) (VR.cons (VAL.shut (by decide) (.inl rfl) (.inl rfl)) (VR.cons (HV0.out.mono (fun b h => by have := HG17.out; omega)) (VR.none _ _)))) (by have := HG11.out; have := HG14.out; have := HG17.out; omega)))
          clear HL17 HNM HV0 HV1 hsw
          have HG14' : Hid (m ≤ g14) := Lib.hid HG14.out.1
          clear HG14
          have y4 := HX13.out.c 4 rfl
          have hx13' := HX13.out.on (made_end (w := w17) (.cells #[.string ⟨#[114, 97, 110, 103, 101]⟩] 9))
          have z4 := hx13'.c 4 rfl
          go_wp2_with (at_builtin; refine wpList_append_lies _ rfl (.tmp 102) (.tmp 103) 22 rfl H 9 j0 _ 1 16 Tryz.underlying22 HJ0.out HJZ0.out HJZ1.out HJZ2.out rfl (by omega) (.slice (some ⟨qn, 0, none⟩) 2 2) 2 [.string ⟨#[114, 97, 110, 103, 101, 76, 101, 110, 103, 116, 104]⟩, .string ⟨#[116, 101, 120, 116]⟩] rfl (own_on (own_lit (n := 2) (k := 1) HBN.out rfl HQN.out.1 (by unfold maxLen; omega)) (made_end _)) ⟨w17.heap.size, 0, none⟩ 1 1 [.string ⟨#[114, 97, 110, 103, 101]⟩] rfl rfl (World.news_of_block (heap_alloc_new w17 _)) (by intro u hu; simp only [List.mem_cons, List.mem_nil_iff, or_false] at hu; subst hu; rfl) (by omega) (by unfold maxLen; omega) (by omega) (Nat.le_trans HQ.out (by simp)) _ rfl ?_)
          intro gn cn w18 hown1 hg1 hat1 hlt1
          clear y4 z4 hx13' 
          have SB : ∀ bb, bb < w17.heap.size → bb ≠ qn → w18.heap[bb]? = w17.heap[bb]? := fun bb hb hne => (hg1.block bb (by simp; omega) (fun e => hne (Option.some.inj e))).trans ((made_end _).block bb hb)
          have hsz1 := hg1.size
          have hsz : w17.heap.size < w18.heap.size := by simp at hsz1; omega
          have hgn : gn = qn ∨ gn = w17.heap.size + 1 := by rcases hat1 with e | e; exact .inl (Option.some.inj e).symm; exact .inr e
          have hbw : Below H wr w18 := (HBr.out.trans ((made_end _).mono HQ.out)).grown hg1 (Nat.le_trans HQ.out (by simp)) (fun k hk => by have := HQN.out; have e : qn = k := Option.some.inj hk; omega)
          have KHX12 := HX12.out.eq (SB g12 HX12.out.lt (by have := HG11.out; have := HG13.out; have := HQN.out; have := HX14.out.lt; have := HX13.out.lt; have := HG14'.out; omega))
          have KHX13 := HX13.out.eq (SB g13 HX13.out.lt (by have := HG11.out; have := HG13.out; have := HQN.out; have := HX14.out.lt; have := HX13.out.lt; have := HG14'.out; omega))
          have KHBL := HBL.out.eq (SB ql HBL.out.lt (by have := HG11.out; have := HG13.out; have := HQN.out; have := HX14.out.lt; have := HX13.out.lt; have := HG14'.out; omega))
          have KHX14 := HX14.out.eq (SB g14 HX14.out.lt (by have := HG11.out; have := HG13.out; have := HQN.out; have := HX14.out.lt; have := HX13.out.lt; have := HG14'.out; omega))
          have KRV := HRV.out.same (fun bb hz => SB bb hz.2.1 (by have := HG11.out; have := HG13.out; have := HQN.out; have := HX14.out.lt; have := HX13.out.lt; have := HG14'.out; omega))
          have y4 := KHX13.c 4 rfl
          have f4 := KHX13.fr 4
          go_upto_region 19 with (fail)
          clear y4 f4
          have hne : gn ≠ g13 := by have := HG11.out; have := HG13.out; have := HQN.out; have := HX14.out.lt; have := HX13.out.lt; have := HG14'.out; omega
          have HG18 : Hid (H ≤ gn ∧ gn < (w18.setCell ⟨g13, 4, none⟩ (.slice (some ⟨gn, 0, none⟩) 3 cn)).heap.size ∧ gn ≠ g13 ∧ gn ≠ ql ∧ gn ≠ g14 ∧ gn ≠ g12) := Lib.hid (by have := HG11.out; have := HG13.out; have := HQN.out; have := HX14.out.lt; have := HX13.out.lt; have := HG14'.out; have h1 := HBL.out.lt; have h2 := HX12.out.lt; have h3 : gn < w18.heap.size := (hown1.lt gn rfl).2; refine ⟨by have := HQ.out; omega, by simp; omega, by omega, by omega, by omega, by omega⟩)
          have HNR : Hid ((w18.setCell ⟨g13, 4, none⟩ (.slice (some ⟨gn, 0, none⟩) 3 cn)).ownsRow H 9 1 (.slice (some ⟨gn, 0, none⟩) 3 cn) 3 [.string ⟨#[114, 97, 110, 103, 101, 76, 101, 110, 103, 116, 104]⟩, .string ⟨#[116, 101, 120, 116]⟩, .string ⟨#[114, 97, 110, 103, 101]⟩]) := Lib.hid (own_put hown1 _ (fun e => hne (Option.some.inj e)))
          have hbs : Below H wr (w18.setCell ⟨g13, 4, none⟩ (.slice (some ⟨gn, 0, none⟩) 3 cn)) := hbw.setCell (p := ⟨g13, 4, none⟩) (by have := HQN.out; show H ≤ g13; omega) _
          have hsz2 : w17.heap.size ≤ (w18.setCell ⟨g13, 4, none⟩ (.slice (some ⟨gn, 0, none⟩) 3 cn)).heap.size := by simp; omega
          replace HX12 := Lib.hid (KHX12.far (p := ⟨g13, 4, none⟩) (.slice (some ⟨gn, 0, none⟩) 3 cn) (by have := HG11.out; have := HG13.out; have := HQN.out; have := HX14.out.lt; have := HX13.out.lt; have := HG14'.out; show g12 ≠ g13; omega))
          replace HBL := Lib.hid (KHBL.far (p := ⟨g13, 4, none⟩) (.slice (some ⟨gn, 0, none⟩) 3 cn) (by have := HG11.out; have := HG13.out; have := HQN.out; have := HX14.out.lt; have := HX13.out.lt; have := HG14'.out; show ql ≠ g13; omega))
          replace HX14 := Lib.hid (KHX14.far (p := ⟨g13, 4, none⟩) (.slice (some ⟨gn, 0, none⟩) 3 cn) (by have := HG11.out; have := HG13.out; have := HQN.out; have := HX14.out.lt; have := HX13.out.lt; have := HG14'.out; show g14 ≠ g13; omega))
          replace HRV : Hid (VAL (w18.setCell ⟨g13, 4, none⟩ (.slice (some ⟨gn, 0, none⟩) 3 cn)) (fun b => m ≤ b ∧ b < (w18.setCell ⟨g13, 4, none⟩ (.slice (some ⟨gn, 0, none⟩) 3 cn)).heap.size ∧ b ≠ g14) (rngT sw (x1 % 2147483648) (x2 % 2147483648) (x3 % 2147483648) (x4 % 2147483648)) (.agg #[.int .i64 5, .bool false, .string ⟨#[]⟩, .slice (some ⟨l17, 0, none⟩) 3 3, .slice (some ⟨n16, 0, none⟩) 3 3])) := Lib.hid ((VAL.same (fun bb hz => Below.heap_setCell _ ⟨g13, 4, none⟩ _ bb (by have := HG11.out; have := HG13.out; have := HQN.out; have := HX14.out.lt; have := HX13.out.lt; have := HG14'.out; show bb ≠ g13; omega)) KRV).mono (fun bb hz => ⟨hz.1, by have := hz.2.1; omega, hz.2.2⟩))
          replace HX13 := Lib.hid (KHX13.set 4 (.slice (some ⟨gn, 0, none⟩) 3 cn) rfl)
          replace HBr := Lib.hid hbs
          replace HQ := Lib.hid (Nat.le_trans HQ.out hsz2)
          clear hbs hsz2 hne hown1 hg1 hat1 hlt1 SB hsz1 hsz hgn hbw KHX12 KHX13 KHBL KHX14 KRV HBN
          generalize (w18.setCell ⟨g13, 4, none⟩ (.slice (some ⟨gn, 0, none⟩) 3 cn)) = w18' at *
          replace HX13 : Hid (BK w18' g13 30 #[.int .i64 5, .bool false, .string ⟨#[]⟩, .slice (some ⟨ql, 0, none⟩) 2 2, .slice (some ⟨gn, 0, none⟩) 3 cn]) := HX13
          have y3 := HX13.out.c 3 rfl
          have z0 := HX14.out.c 0 rfl
          have z1 := HX14.out.c 1 rfl
          have z2 := HX14.out.c 2 rfl
          have z3 := HX14.out.c 3 rfl
          have z4 := HX14.out.c 4 rfl
          go_wp2_with (at_builtin; refine wpList_append_lies _ rfl (.tmp 107) (.tmp 109) 28 rfl H 30 i0 _ 5 80 Tryz.underlying28 HI0.out HIZ0.out HIZ1.out HIZ2.out rfl (by omega) (.slice (some ⟨ql, 0, none⟩) 2 2) 2 [.int .i64 2, .bool false, .string ⟨#[57]⟩, .slice none 0 0, .slice none 0 0, .int .i64 3, .bool false, .string tx, .slice none 0 0, .slice none 0 0] rfl (own_on (own_lit (n := 2) (k := 5) HBL.out rfl HQN.out.2.1 (by unfold maxLen; omega)) (made_end _)) ⟨w18'.heap.size, 0, none⟩ 1 1 [.int .i64 5, .bool false, .string ⟨#[]⟩, .slice (some ⟨l17, 0, none⟩) 3 3, .slice (some ⟨n16, 0, none⟩) 3 3] rfl rfl (World.news_of_block (heap_alloc_new w18' _)) (by intro u hu; simp only [List.mem_cons, List.mem_nil_iff, or_false] at hu; rcases hu with h | h | h | h | h <;> subst h <;> rfl) (by omega) (by unfold maxLen; omega) (by omega) (Nat.le_trans HQ.out (by simp)) _ rfl ?_)
          intro ge ce w19 hown1 hg1 hat1 hlt1
          clear y3 z0 z1 z2 z3 z4
          have SB : ∀ bb, bb < w18'.heap.size → bb ≠ ql → w19.heap[bb]? = w18'.heap[bb]? := fun bb hb hne => (hg1.block bb (by simp; omega) (fun e => hne (Option.some.inj e))).trans ((made_end _).block bb hb)
          have hsz1 := hg1.size
          have hsz : w18'.heap.size < w19.heap.size := by simp at hsz1; omega
          have hge : ge = ql ∨ ge = w18'.heap.size + 1 := by rcases hat1 with e | e; exact .inl (Option.some.inj e).symm; exact .inr e
          have hbw : Below H wr w19 := (HBr.out.trans ((made_end _).mono HQ.out)).grown hg1 (Nat.le_trans HQ.out (by simp)) (fun k hk => by have := HQN.out; have e : ql = k := Option.some.inj hk; omega)
          have KHX12 := HX12.out.eq (SB g12 HX12.out.lt (by have := HG11.out; have := HG13.out; have := HQN.out; have := HX14.out.lt; have := HX13.out.lt; have := HG14'.out; omega))
          have KHX13 := HX13.out.eq (SB g13 HX13.out.lt (by have := HG11.out; have := HG13.out; have := HQN.out; have := HX14.out.lt; have := HX13.out.lt; have := HG14'.out; omega))
          have KRV := HRV.out.same (fun bb hz => SB bb hz.2.1 (by have := HG11.out; have := HG13.out; have := HQN.out; have := HX14.out.lt; have := HX13.out.lt; have := HG14'.out; omega))
          have y3 := KHX13.c 3 rfl
          have f3 := KHX13.fr 3
          go_upto_region 20 with (fail)
          clear y3 f3
          have hne : ge ≠ g13 := by have := HG11.out; have := HG13.out; have := HQN.out; have := HX14.out.lt; have := HX13.out.lt; have := HG14'.out; omega
          have hge2 : H ≤ ge ∧ ge < (w19.setCell ⟨g13, 3, none⟩ (.slice (some ⟨ge, 0, none⟩) 3 ce)).heap.size := by have := HG11.out; have := HG13.out; have := HQN.out; have := HX14.out.lt; have := HX13.out.lt; have := HG14'.out; have h3 : ge < w19.heap.size := (hown1.lt ge rfl).2; refine ⟨by have := HQ.out; omega, by simp; omega⟩
          have HNR' : (w19.setCell ⟨g13, 3, none⟩ (.slice (some ⟨ge, 0, none⟩) 3 ce)).ownsRow H 9 1 (.slice (some ⟨gn, 0, none⟩) 3 cn) 3 [.string ⟨#[114, 97, 110, 103, 101, 76, 101, 110, 103, 116, 104]⟩, .string ⟨#[116, 101, 120, 116]⟩, .string ⟨#[114, 97, 110, 103, 101]⟩] := own_put ((own_on HNR.out (made_end _)).kept hg1 (.inr (fun e => by have := HG18.out; have e : gn = ql := Option.some.inj e; omega))) _ (fun e => HG18.out.2.2.1 (Option.some.inj e))
          have HER' := own_put (p := ⟨g13, 3, none⟩) hown1 (.slice (some ⟨ge, 0, none⟩) 3 ce) (fun e => hne (Option.some.inj e))
          have hbs : Below H wr (w19.setCell ⟨g13, 3, none⟩ (.slice (some ⟨ge, 0, none⟩) 3 ce)) := hbw.setCell (p := ⟨g13, 3, none⟩) (by have := HQN.out; show H ≤ g13; omega) _
          have hsz2 : w18'.heap.size ≤ (w19.setCell ⟨g13, 3, none⟩ (.slice (some ⟨ge, 0, none⟩) 3 ce)).heap.size := by simp; omega
          replace HX12 := Lib.hid (KHX12.far (p := ⟨g13, 3, none⟩) (.slice (some ⟨ge, 0, none⟩) 3 ce) (by have := HG11.out; have := HG13.out; have := HQN.out; have := HX14.out.lt; have := HX13.out.lt; have := HG14'.out; show g12 ≠ g13; omega))
          have hrv : VAL (w19.setCell ⟨g13, 3, none⟩ (.slice (some ⟨ge, 0, none⟩) 3 ce)) (fun bb => H ≤ bb ∧ bb < (w19.setCell ⟨g13, 3, none⟩ (.slice (some ⟨ge, 0, none⟩) 3 ce)).heap.size) (rngT sw (x1 % 2147483648) (x2 % 2147483648) (x3 % 2147483648) (x4 % 2147483648)) (.agg #[.int .i64 5, .bool false, .string ⟨#[]⟩, .slice (some ⟨l17, 0, none⟩) 3 3, .slice (some ⟨n16, 0, none⟩) 3 3]) := (VAL.same (fun bb hz => Below.heap_setCell _ ⟨g13, 3, none⟩ _ bb (by have := HG11.out; have := HG13.out; have := HQN.out; have := HX14.out.lt; have := HX13.out.lt; have := HG14'.out; show bb ≠ g13; omega)) KRV).mono (fun bb hz => by have := HG11.out; have := HG13.out; have := HQN.out; have := HX14.out.lt; have := HX13.out.lt; have := HG14'.out; omega)
          replace HX13 := Lib.hid (KHX13.set 3 (.slice (some ⟨ge, 0, none⟩) 3 ce) rfl)
          have HVT : Hid (VAL (w19.setCell ⟨g13, 3, none⟩ (.slice (some ⟨ge, 0, none⟩) 3 ce)) (fun bb => H ≤ bb ∧ bb < (w19.setCell ⟨g13, 3, none⟩ (.slice (some ⟨ge, 0, none⟩) 3 ce)).heap.size) ((fun j => ((l.map wantE).map (edT sw)).getD j .leaf) p) (.agg #[.int .i64 5, .bool false, .string ⟨#[]⟩, .slice (some ⟨ge, 0, none⟩) 3 ce, .slice (some ⟨gn, 0, none⟩) 3 cn])) := Lib.hid (Eq.mpr (congrArg (fun t => VAL _ _ t _) HT.out) (VAL.shut (n := 3) (m := [⟨#[114, 97, 110, 103, 101, 76, 101, 110, 103, 116, 104]⟩, ⟨#[116, 101, 120, 116]⟩, ⟨#[114, 97, 110, 103, 101]⟩]) (c := fun j => [nmT ⟨#[57]⟩, txT tx, rngT sw (x1 % 2147483648) (x2 % 2147483648) (x3 % 2147483648) (x4 % 2147483648)].getD j .leaf) (by decide) (ts_row [⟨#[114, 97, 110, 103, 101, 76, 101, 110, 103, 116, 104]⟩, ⟨#[116, 101, 120, 116]⟩, ⟨#[114, 97, 110, 103, 101]⟩] HNR' rfl ⟨HG18.out.1, by have := HG18.out; omega⟩) (vs_row HER' (VR.cons (VAL.shut (by decide) (.inl rfl) (.inl rfl)) (VR.cons (VAL.shut (by decide) (.inl rfl) (.inl rfl)) (VR.cons hrv (VR.none _ _)))) (fun bb h => h) hge2)))
          replace HBr := Lib.hid hbs
          replace HQ := Lib.hid (Nat.le_trans HQ.out hsz2)
          clear hbs hsz2 hne hown1 hg1 hat1 hlt1 SB hsz1 hsz hge hge2 hbw KHX12 KHX13 KRV HBL HX14 HRV hrv HNR HNR' HER' HG18
          generalize (w19.setCell ⟨g13, 3, none⟩ (.slice (some ⟨ge, 0, none⟩) 3 ce)) = w19' at *
          replace HX13 : Hid (BK w19' g13 30 #[.int .i64 5, .bool false, .string ⟨#[]⟩, .slice (some ⟨ge, 0, none⟩) 3 ce, .slice (some ⟨gn, 0, none⟩) 3 cn]) := HX13
          have y0 := HX12.out.c 0 rfl
          have y1 := HX12.out.c 1 rfl
          have y2 := HX12.out.c 2 rfl
          have y3 := HX12.out.c 3 rfl
          have y4 := HX12.out.c 4 rfl
          have y5 := HX12.out.c 5 rfl
          have HMc := Lib.hid (HM.out.on HBr.out)
          go_wp2_with (at_builtin; refine wpList_append_lies _ rfl (.tmp 112) (.tmp 114) 40 rfl (w.heap.size + 1) 57 e0 _ 6 56 Tryz.underlying40 HE0.out HEZ0.out HEZ1.out HEZ2.out rfl (by omega) wv p (edCs ((l.take p).map wantE)) rfl (own_on HMc.out.wown (made_end _)) ⟨w19'.heap.size, 0, none⟩ 1 1 [.bool false, .int .i64 (x1 % 2147483648), .int .i64 (x2 % 2147483648), .int .i64 (x3 % 2147483648), .int .i64 (x4 % 2147483648), .string tx] rfl rfl (World.news_of_block (heap_alloc_new w19' _)) (by intro u hu; simp only [List.mem_cons, List.mem_nil_iff, or_false] at hu; rcases hu with h | h | h | h | h | h <;> subst h <;> rfl) (by omega) (by unfold maxLen; omega) (by omega) (Nat.le_trans HMc.out.size.1 (Nat.le_trans HMc.out.size.2 (by simp))) _ rfl ?_)
          intro gw cw w20 hown1 hg1 hat1 hlt1
          clear y0 y1 y2 y3 y4 y5
          have HX20 : Hid (BK w20 g13 30 #[.int .i64 5, .bool false, .string ⟨#[]⟩, .slice (some ⟨ge, 0, none⟩) 3 ce, .slice (some ⟨gn, 0, none⟩) 3 cn]) := Lib.hid ((HMc.out.same20 hg1 g13 HX13.out.lt (fun e => by have := HMc.out.wlt _ e; have := HQN.out.2.2; omega)).trans HX13.out)
          have HE20 := Lib.hid (HMc.out.e20 hg1)
          have HS20 : Hid (w.heap.size + 1 ≤ w20.heap.size) := Lib.hid (by have h1 := hg1.size; have h2 := HMc.out.size; simp at h1; omega)
          have A1 := Lib.hid hown1
          have A2 := Lib.hid hg1
          have A3 := Lib.hid hat1
          clear hown1 hg1 hat1 hlt1
          have y0 := HX20.out.c 0 rfl
          have y1 := HX20.out.c 1 rfl
          have y2 := HX20.out.c 2 rfl
          have y3 := HX20.out.c 3 rfl
          have y4 := HX20.out.c 4 rfl
          go_wp2_with (at_builtin; refine wpList_append_lies _ rfl (.tmp 116) (.tmp 118) 28 rfl (w.heap.size + 1) 30 i0 _ 5 80 Tryz.underlying28 HI0.out HIZ0.out HIZ1.out HIZ2.out rfl (by omega) ev p xs rfl (own_on HE20.out (made_end _)) ⟨w20.heap.size, 0, none⟩ 1 1 [.int .i64 5, .bool false, .string ⟨#[]⟩, .slice (some ⟨ge, 0, none⟩) 3 ce, .slice (some ⟨gn, 0, none⟩) 3 cn] rfl rfl (World.news_of_block (heap_alloc_new w20 _)) (by intro u hu; simp only [List.mem_cons, List.mem_nil_iff, or_false] at hu; rcases hu with h | h | h | h | h <;> subst h <;> rfl) (by omega) (by unfold maxLen; omega) (by omega) (Nat.le_trans HS20.out (by simp)) _ rfl ?_)
          intro ge ce w21 hown2 hg2 hat2 hlt2
          clear y0 y1 y2 y3 y4
          have HF := Lib.hid (HMc.out.step HVT.out (by have := A1.out; exact this) A2.out A3.out hown2 hg2 hat2)
          clear A2 A3 hown2 hg2 hat2 hlt2 A1
          go_wp2
          go_roundg (gk - 1)
          case measure => have := HPQ.out; have := HLT.out; omega
          case rel => exact ⟨p + 1, _, _, _, by have := HPQ.out; have := HLT.out; omega, by go_num, rfl, rfl, (by have := HF.out; have e := HWS.out; rw [← e, List.map_take]; exact this)⟩
        · skip
          rw [hsw] at hd
          have hd2 : (qz == 1) = false := hd
          have HRV : Hid (VAL w15 (fun b => m ≤ b ∧ b < w15.heap.size ∧ b ≠ g14) (rngT sw (x1 % 2147483648) (x2 % 2147483648) (x3 % 2147483648) (x4 % 2147483648)) (.agg #[.int .i64 5, .bool false, .string ⟨#[]⟩, .slice (some ⟨br, ofr, none⟩) 2 capr, .slice An 2 capn])) := Lib.hid (by
            rw [hsw]
            exact VAL.shut (n := 2) (m := [VT.startN, VT.endN]) (c := fun j => [posT (x1 % 2147483648) (x2 % 2147483648), posT (x3 % 2147483648) (x4 % 2147483648)].getD j .leaf) (by decide) (HTN.out.mono (fun b h => by have := HG14.out; omega)) (HVV.out.mono (fun b h => by have := HG14.out; omega)))
          clear HTN HVV HV0 HV1 HR2 hsw
          have HG14' : Hid (m ≤ g14) := Lib.hid HG14.out.1
          clear HG14
          have y4 := HX13.out.c 4 rfl
          have hx13' := HX13.out.on (made_end (w := w15) (.cells #[.string ⟨#[114, 97, 110, 103, 101]⟩] 9))
          have z4 := hx13'.c 4 rfl
          go_wp2_with (at_builtin; refine wpList_append_lies _ rfl (.tmp 102) (.tmp 103) 22 rfl H 9 j0 _ 1 16 Tryz.underlying22 HJ0.out HJZ0.out HJZ1.out HJZ2.out rfl (by omega) (.slice (some ⟨qn, 0, none⟩) 2 2) 2 [.string ⟨#[114, 97, 110, 103, 101, 76, 101, 110, 103, 116, 104]⟩, .string ⟨#[116, 101, 120, 116]⟩] rfl (own_on (own_lit (n := 2) (k := 1) HBN.out rfl HQN.out.1 (by unfold maxLen; omega)) (made_end _)) ⟨w15.heap.size, 0, none⟩ 1 1 [.string ⟨#[114, 97, 110, 103, 101]⟩] rfl rfl (World.news_of_block (heap_alloc_new w15 _)) (by intro u hu; simp only [List.mem_cons, List.mem_nil_iff, or_false] at hu; subst hu; rfl) (by omega) (by unfold maxLen; omega) (by omega) (Nat.le_trans HQ.out (by simp)) _ rfl ?_)
          intro gn cn w18 hown1 hg1 hat1 hlt1
          clear y4 z4 hx13' hd hd2
          have SB : ∀ bb, bb < w15.heap.size → bb ≠ qn → w18.heap[bb]? = w15.heap[bb]? := fun bb hb hne => (hg1.block bb (by simp; omega) (fun e => hne (Option.some.inj e))).trans ((made_end _).block bb hb)
          have hsz1 := hg1.size
          have hsz : w15.heap.size < w18.heap.size := by simp at hsz1; omega
          have hgn : gn = qn ∨ gn = w15.heap.size + 1 := by rcases hat1 with e | e; exact .inl (Option.some.inj e).symm; exact .inr e
          have hbw : Below H wr w18 := (HBr.out.trans ((made_end _).mono HQ.out)).grown hg1 (Nat.le_trans HQ.out (by simp)) (fun k hk => by have := HQN.out; have e : qn = k := Option.some.inj hk; omega)
          have KHX12 := HX12.out.eq (SB g12 HX12.out.lt (by have := HG11.out; have := HG13.out; have := HQN.out; have := HX14.out.lt; have := HX13.out.lt; have := HG14'.out; omega))
          have KHX13 := HX13.out.eq (SB g13 HX13.out.lt (by have := HG11.out; have := HG13.out; have := HQN.out; have := HX14.out.lt; have := HX13.out.lt; have := HG14'.out; omega))
          have KHBL := HBL.out.eq (SB ql HBL.out.lt (by have := HG11.out; have := HG13.out; have := HQN.out; have := HX14.out.lt; have := HX13.out.lt; have := HG14'.out; omega))
          have KHX14 := HX14.out.eq (SB g14 HX14.out.lt (by have := HG11.out; have := HG13.out; have := HQN.out; have := HX14.out.lt; have := HX13.out.lt; have := HG14'.out; omega))
          have KRV := HRV.out.same (fun bb hz => SB bb hz.2.1 (by have := HG11.out; have := HG13.out; have := HQN.out; have := HX14.out.lt; have := HX13.out.lt; have := HG14'.out; omega))
          have y4 := KHX13.c 4 rfl
          have f4 := KHX13.fr 4
          go_upto_region 19 with (fail)
          clear y4 f4
          have hne : gn ≠ g13 := by have := HG11.out; have := HG13.out; have := HQN.out; have := HX14.out.lt; have := HX13.out.lt; have := HG14'.out; omega
          have HG18 : Hid (H ≤ gn ∧ gn < (w18.setCell ⟨g13, 4, none⟩ (.slice (some ⟨gn, 0, none⟩) 3 cn)).heap.size ∧ gn ≠ g13 ∧ gn ≠ ql ∧ gn ≠ g14 ∧ gn ≠ g12) := Lib.hid (by have := HG11.out; have := HG13.out; have := HQN.out; have := HX14.out.lt; have := HX13.out.lt; have := HG14'.out; have h1 := HBL.out.lt; have h2 := HX12.out.lt; have h3 : gn < w18.heap.size := (hown1.lt gn rfl).2; refine ⟨by have := HQ.out; omega, by simp; omega, by omega, by omega, by omega, by omega⟩)
          have HNR : Hid ((w18.setCell ⟨g13, 4, none⟩ (.slice (some ⟨gn, 0, none⟩) 3 cn)).ownsRow H 9 1 (.slice (some ⟨gn, 0, none⟩) 3 cn) 3 [.string ⟨#[114, 97, 110, 103, 101, 76, 101, 110, 103, 116, 104]⟩, .string ⟨#[116, 101, 120, 116]⟩, .string ⟨#[114, 97, 110, 103, 101]⟩]) := Lib.hid (own_put hown1 _ (fun e => hne (Option.some.inj e)))
          have hbs : Below H wr (w18.setCell ⟨g13, 4, none⟩ (.slice (some ⟨gn, 0, none⟩) 3 cn)) := hbw.setCell (p := ⟨g13, 4, none⟩) (by have := HQN.out; show H ≤ g13; omega) _
          have hsz2 : w15.heap.size ≤ (w18.setCell ⟨g13, 4, none⟩ (.slice (some ⟨gn, 0, none⟩) 3 cn)).heap.size := by simp; omega
          replace HX12 := Lib.hid (KHX12.far (p := ⟨g13, 4, none⟩) (.slice (some ⟨gn, 0, none⟩) 3 cn) (by have := HG11.out; have := HG13.out; have := HQN.out; have := HX14.out.lt; have := HX13.out.lt; have := HG14'.out; show g12 ≠ g13; omega))
          replace HBL := Lib.hid (KHBL.far (p := ⟨g13, 4, none⟩) (.slice (some ⟨gn, 0, none⟩) 3 cn) (by have := HG11.out; have := HG13.out; have := HQN.out; have := HX14.out.lt; have := HX13.out.lt; have := HG14'.out; show ql ≠ g13; omega))
          replace HX14 := Lib.hid (KHX14.far (p := ⟨g13, 4, none⟩) (.slice (some ⟨gn, 0, none⟩) 3 cn) (by have := HG11.out; have := HG13.out; have := HQN.out; have := HX14.out.lt; have := HX13.out.lt; have := HG14'.out; show g14 ≠ g13; omega))
          replace HRV : Hid (VAL (w18.setCell ⟨g13, 4, none⟩ (.slice (some ⟨gn, 0, none⟩) 3 cn)) (fun b => m ≤ b ∧ b < (w18.setCell ⟨g13, 4, none⟩ (.slice (some ⟨gn, 0, none⟩) 3 cn)).heap.size ∧ b ≠ g14) (rngT sw (x1 % 2147483648) (x2 % 2147483648) (x3 % 2147483648) (x4 % 2147483648)) (.agg #[.int .i64 5, .bool false, .string ⟨#[]⟩, .slice (some ⟨br, ofr, none⟩) 2 capr, .slice An 2 capn])) := Lib.hid ((VAL.same (fun bb hz => Below.heap_setCell _ ⟨g13, 4, none⟩ _ bb (by have := HG11.out; have := HG13.out; have := HQN.out; have := HX14.out.lt; have := HX13.out.lt; have := HG14'.out; show bb ≠ g13; omega)) KRV).mono (fun bb hz => ⟨hz.1, by have := hz.2.1; omega, hz.2.2⟩))
          replace HX13 := Lib.hid (KHX13.set 4 (.slice (some ⟨gn, 0, none⟩) 3 cn) rfl)
          replace HBr := Lib.hid hbs
          replace HQ := Lib.hid (Nat.le_trans HQ.out hsz2)
          clear hbs hsz2 hne hown1 hg1 hat1 hlt1 SB hsz1 hsz hgn hbw KHX12 KHX13 KHBL KHX14 KRV HBN
          generalize (w18.setCell ⟨g13, 4, none⟩ (.slice (some ⟨gn, 0, none⟩) 3 cn)) = w18' at *
          replace HX13 : Hid (BK w18' g13 30 #[.int .i64 5, .bool false, .string ⟨#[]⟩, .slice (some ⟨ql, 0, none⟩) 2 2, .slice (some ⟨gn, 0, none⟩) 3 cn]) := HX13
          have y3 := HX13.out.c 3 rfl
          have z0 := HX14.out.c 0 rfl
          have z1 := HX14.out.c 1 rfl
          have z2 := HX14.out.c 2 rfl
          have z3 := HX14.out.c 3 rfl
          have z4 := HX14.out.c 4 rfl
          go_wp2_with (at_builtin; refine wpList_append_lies _ rfl (.tmp 107) (.tmp 109) 28 rfl H 30 i0 _ 5 80 Tryz.underlying28 HI0.out HIZ0.out HIZ1.out HIZ2.out rfl (by omega) (.slice (some ⟨ql, 0, none⟩) 2 2) 2 [.int .i64 2, .bool false, .string ⟨#[57]⟩, .slice none 0 0, .slice none 0 0, .int .i64 3, .bool false, .string tx, .slice none 0 0, .slice none 0 0] rfl (own_on (own_lit (n := 2) (k := 5) HBL.out rfl HQN.out.2.1 (by unfold maxLen; omega)) (made_end _)) ⟨w18'.heap.size, 0, none⟩ 1 1 [.int .i64 5, .bool false, .string ⟨#[]⟩, .slice (some ⟨br, ofr, none⟩) 2 capr, .slice An 2 capn] rfl rfl (World.news_of_block (heap_alloc_new w18' _)) (by intro u hu; simp only [List.mem_cons, List.mem_nil_iff, or_false] at hu; rcases hu with h | h | h | h | h <;> subst h <;> rfl) (by omega) (by unfold maxLen; omega) (by omega) (Nat.le_trans HQ.out (by simp)) _ rfl ?_)
          intro ge ce w19 hown1 hg1 hat1 hlt1
          clear y3 z0 z1 z2 z3 z4
          have SB : ∀ bb, bb < w18'.heap.size → bb ≠ ql → w19.heap[bb]? = w18'.heap[bb]? := fun bb hb hne => (hg1.block bb (by simp; omega) (fun e => hne (Option.some.inj e))).trans ((made_end _).block bb hb)
          have hsz1 := hg1.size
          have hsz : w18'.heap.size < w19.heap.size := by simp at hsz1; omega
          have hge : ge = ql ∨ ge = w18'.heap.size + 1 := by rcases hat1 with e | e; exact .inl (Option.some.inj e).symm; exact .inr e
          have hbw : Below H wr w19 := (HBr.out.trans ((made_end _).mono HQ.out)).grown hg1 (Nat.le_trans HQ.out (by simp)) (fun k hk => by have := HQN.out; have e : ql = k := Option.some.inj hk; omega)
          have KHX12 := HX12.out.eq (SB g12 HX12.out.lt (by have := HG11.out; have := HG13.out; have := HQN.out; have := HX14.out.lt; have := HX13.out.lt; have := HG14'.out; omega))
          have KHX13 := HX13.out.eq (SB g13 HX13.out.lt (by have := HG11.out; have := HG13.out; have := HQN.out; have := HX14.out.lt; have := HX13.out.lt; have := HG14'.out; omega))
          have KRV := HRV.out.same (fun bb hz => SB bb hz.2.1 (by have := HG11.out; have := HG13.out; have := HQN.out; have := HX14.out.lt; have := HX13.out.lt; have := HG14'.out; omega))
          have y3 := KHX13.c 3 rfl
          have f3 := KHX13.fr 3
          go_upto_region 20 with (fail)
          clear y3 f3
          have hne : ge ≠ g13 := by have := HG11.out; have := HG13.out; have := HQN.out; have := HX14.out.lt; have := HX13.out.lt; have := HG14'.out; omega
          have hge2 : H ≤ ge ∧ ge < (w19.setCell ⟨g13, 3, none⟩ (.slice (some ⟨ge, 0, none⟩) 3 ce)).heap.size := by have := HG11.out; have := HG13.out; have := HQN.out; have := HX14.out.lt; have := HX13.out.lt; have := HG14'.out; have h3 : ge < w19.heap.size := (hown1.lt ge rfl).2; refine ⟨by have := HQ.out; omega, by simp; omega⟩
          have HNR' : (w19.setCell ⟨g13, 3, none⟩ (.slice (some ⟨ge, 0, none⟩) 3 ce)).ownsRow H 9 1 (.slice (some ⟨gn, 0, none⟩) 3 cn) 3 [.string ⟨#[114, 97, 110, 103, 101, 76, 101, 110, 103, 116, 104]⟩, .string ⟨#[116, 101, 120, 116]⟩, .string ⟨#[114, 97, 110, 103, 101]⟩] := own_put ((own_on HNR.out (made_end _)).kept hg1 (.inr (fun e => by have := HG18.out; have e : gn = ql := Option.some.inj e; omega))) _ (fun e => HG18.out.2.2.1 (Option.some.inj e))
          have HER' := own_put (p := ⟨g13, 3, none⟩) hown1 (.slice (some ⟨ge, 0, none⟩) 3 ce) (fun e => hne (Option.some.inj e))
          have hbs : Below H wr (w19.setCell ⟨g13, 3, none⟩ (.slice (some ⟨ge, 0, none⟩) 3 ce)) := hbw.setCell (p := ⟨g13, 3, none⟩) (by have := HQN.out; show H ≤ g13; omega) _
          have hsz2 : w18'.heap.size ≤ (w19.setCell ⟨g13, 3, none⟩ (.slice (some ⟨ge, 0, none⟩) 3 ce)).heap.size := by simp; omega
          replace HX12 := Lib.hid (KHX12.far (p := ⟨g13, 3, none⟩) (.slice (some ⟨ge, 0, none⟩) 3 ce) (by have := HG11.out; have := HG13.out; have := HQN.out; have := HX14.out.lt; have := HX13.out.lt; have := HG14'.out; show g12 ≠ g13; omega))
          have hrv : VAL (w19.setCell ⟨g13, 3, none⟩ (.slice (some ⟨ge, 0, none⟩) 3 ce)) (fun bb => H ≤ bb ∧ bb < (w19.setCell ⟨g13, 3, none⟩ (.slice (some ⟨ge, 0, none⟩) 3 ce)).heap.size) (rngT sw (x1 % 2147483648) (x2 % 2147483648) (x3 % 2147483648) (x4 % 2147483648)) (.agg #[.int .i64 5, .bool false, .string ⟨#[]⟩, .slice (some ⟨br, ofr, none⟩) 2 capr, .slice An 2 capn]) := (VAL.same (fun bb hz => Below.heap_setCell _ ⟨g13, 3, none⟩ _ bb (by have := HG11.out; have := HG13.out; have := HQN.out; have := HX14.out.lt; have := HX13.out.lt; have := HG14'.out; show bb ≠ g13; omega)) KRV).mono (fun bb hz => by have := HG11.out; have := HG13.out; have := HQN.out; have := HX14.out.lt; have := HX13.out.lt; have := HG14'.out; omega)
          replace HX13 := Lib.hid (KHX13.set 3 (.slice (some ⟨ge, 0, none⟩) 3 ce) rfl)
          have HVT : Hid (VAL (w19.setCell ⟨g13, 3, none⟩ (.slice (some ⟨ge, 0, none⟩) 3 ce)) (fun bb => H ≤ bb ∧ bb < (w19.setCell ⟨g13, 3, none⟩ (.slice (some ⟨ge, 0, none⟩) 3 ce)).heap.size) ((fun j => ((l.map wantE).map (edT sw)).getD j .leaf) p) (.agg #[.int .i64 5, .bool false, .string ⟨#[]⟩, .slice (some ⟨ge, 0, none⟩) 3 ce, .slice (some ⟨gn, 0, none⟩) 3 cn])) := Lib.hid (Eq.mpr (congrArg (fun t => VAL _ _ t _) HT.out) (VAL.shut (n := 3) (m := [⟨#[114, 97, 110, 103, 101, 76, 101, 110, 103, 116, 104]⟩, ⟨#[116, 101, 120, 116]⟩, ⟨#[114, 97, 110, 103, 101]⟩]) (c := fun j => [nmT ⟨#[57]⟩, txT tx, rngT sw (x1 % 2147483648) (x2 % 2147483648) (x3 % 2147483648) (x4 % 2147483648)].getD j .leaf) (by decide) (ts_row [⟨#[114, 97, 110, 103, 101, 76, 101, 110, 103, 116, 104]⟩, ⟨#[116, 101, 120, 116]⟩, ⟨#[114, 97, 110, 103, 101]⟩] HNR' rfl ⟨HG18.out.1, by have := HG18.out; omega⟩) (vs_row HER' (VR.cons (VAL.shut (by decide) (.inl rfl) (.inl rfl)) (VR.cons (VAL.shut (by decide) (.inl rfl) (.inl rfl)) (VR.cons hrv (VR.none _ _)))) (fun bb h => h) hge2)))
          replace HBr := Lib.hid hbs
          replace HQ := Lib.hid (Nat.le_trans HQ.out hsz2)
          clear hbs hsz2 hne hown1 hg1 hat1 hlt1 SB hsz1 hsz hge hge2 hbw KHX12 KHX13 KRV HBL HX14 HRV hrv HNR HNR' HER' HG18
          generalize (w19.setCell ⟨g13, 3, none⟩ (.slice (some ⟨ge, 0, none⟩) 3 ce)) = w19' at *
          replace HX13 : Hid (BK w19' g13 30 #[.int .i64 5, .bool false, .string ⟨#[]⟩, .slice (some ⟨ge, 0, none⟩) 3 ce, .slice (some ⟨gn, 0, none⟩) 3 cn]) := HX13
          have y0 := HX12.out.c 0 rfl
          have y1 := HX12.out.c 1 rfl
          have y2 := HX12.out.c 2 rfl
          have y3 := HX12.out.c 3 rfl
          have y4 := HX12.out.c 4 rfl
          have y5 := HX12.out.c 5 rfl
          have HMc := Lib.hid (HM.out.on HBr.out)
          go_wp2_with (at_builtin; refine wpList_append_lies _ rfl (.tmp 112) (.tmp 114) 40 rfl (w.heap.size + 1) 57 e0 _ 6 56 Tryz.underlying40 HE0.out HEZ0.out HEZ1.out HEZ2.out rfl (by omega) wv p (edCs ((l.take p).map wantE)) rfl (own_on HMc.out.wown (made_end _)) ⟨w19'.heap.size, 0, none⟩ 1 1 [.bool false, .int .i64 (x1 % 2147483648), .int .i64 (x2 % 2147483648), .int .i64 (x3 % 2147483648), .int .i64 (x4 % 2147483648), .string tx] rfl rfl (World.news_of_block (heap_alloc_new w19' _)) (by intro u hu; simp only [List.mem_cons, List.mem_nil_iff, or_false] at hu; rcases hu with h | h | h | h | h | h <;> subst h <;> rfl) (by omega) (by unfold maxLen; omega) (by omega) (Nat.le_trans HMc.out.size.1 (Nat.le_trans HMc.out.size.2 (by simp))) _ rfl ?_)
          intro gw cw w20 hown1 hg1 hat1 hlt1
          clear y0 y1 y2 y3 y4 y5
          have HX20 : Hid (BK w20 g13 30 #[.int .i64 5, .bool false, .string ⟨#[]⟩, .slice (some ⟨ge, 0, none⟩) 3 ce, .slice (some ⟨gn, 0, none⟩) 3 cn]) := Lib.hid ((HMc.out.same20 hg1 g13 HX13.out.lt (fun e => by have := HMc.out.wlt _ e; have := HQN.out.2.2; omega)).trans HX13.out)
          have HE20 := Lib.hid (HMc.out.e20 hg1)
          have HS20 : Hid (w.heap.size + 1 ≤ w20.heap.size) := Lib.hid (by have h1 := hg1.size; have h2 := HMc.out.size; simp at h1; omega)
          have A1 := Lib.hid hown1
          have A2 := Lib.hid hg1
          have A3 := Lib.hid hat1
          clear hown1 hg1 hat1 hlt1
          have y0 := HX20.out.c 0 rfl
          have y1 := HX20.out.c 1 rfl
          have y2 := HX20.out.c 2 rfl
          have y3 := HX20.out.c 3 rfl
          have y4 := HX20.out.c 4 rfl
          go_wp2_with (at_builtin; refine wpList_append_lies _ rfl (.tmp 116) (.tmp 118) 28 rfl (w.heap.size + 1) 30 i0 _ 5 80 Tryz.underlying28 HI0.out HIZ0.out HIZ1.out HIZ2.out rfl (by omega) ev p xs rfl (own_on HE20.out (made_end _)) ⟨w20.heap.size, 0, none⟩ 1 1 [.int .i64 5, .bool false, .string ⟨#[]⟩, .slice (some ⟨ge, 0, none⟩) 3 ce, .slice (some ⟨gn, 0, none⟩) 3 cn] rfl rfl (World.news_of_block (heap_alloc_new w20 _)) (by intro u hu; simp only [List.mem_cons, List.mem_nil_iff, or_false] at hu; rcases hu with h | h | h | h | h <;> subst h <;> rfl) (by omega) (by unfold maxLen; omega) (by omega) (Nat.le_trans HS20.out (by simp)) _ rfl ?_)
          intro ge ce w21 hown2 hg2 hat2 hlt2
          clear y0 y1 y2 y3 y4
          have HF := Lib.hid (HMc.out.step HVT.out (by have := A1.out; exact this) A2.out A3.out hown2 hg2 hat2)
          clear A2 A3 hown2 hg2 hat2 hlt2 A1
          go_wp2
          go_roundg (gk - 1)
          case measure => have := HPQ.out; have := HLT.out; omega
          case rel => exact ⟨p + 1, _, _, _, by have := HPQ.out; have := HLT.out; omega, by go_num, rfl, rfl, (by have := HF.out; have e := HWS.out; rw [← e, List.map_take]; exact this)⟩
    · skip
      obtain rfl : N = p := by have := HPQ.out; omega
      obtain ⟨L, hL⟩ : ∃ L, (l.take N).map wantE = L := ⟨_, rfl⟩
      have hlen : L.length = N := by rw [← hL, List.length_map, List.length_take]; have := HN.out; have := HNN.out; omega
      have HFE : Hid (∀ x ∈ L, FarEd x) := Lib.hid (fun x hx => by rw [← hL] at hx; obtain ⟨y, -, rfl⟩ := List.mem_map.1 hx; exact wantE_far y)
      have HTE : Hid (∀ x ∈ L, x.text.size ≤ 1048576) := Lib.hid (fun x hx => by
        rw [← hL] at hx
        obtain ⟨y, hy, rfl⟩ := List.mem_map.1 hx
        have := HTX.out y (List.mem_of_mem_take hy)
        unfold wantE
        split <;> exact this)
      have HLE : Hid (L.length ≤ 32) := Lib.hid (by have := HNN.out; omega)
      have HNE : Hid ((L.map (edT sw)).length = N) := Lib.hid (by rw [List.length_map]; exact hlen)
      obtain ⟨WA, wcap, hwv, hES⟩ := ES_of_own (l := L) (S' := fun b => b < wr.heap.size) (by have h := HM.out.wown; rw [hL] at h; rw [hlen]; exact h) (fun b hb => (HM.out.wown.lt b hb).2)
      obtain ⟨EA, ecap, hev, hVS⟩ := VS_of_own (S' := fun b => w.heap.size + 1 ≤ b ∧ b < wr.heap.size) HM.out.eown HM.out.row (fun b hb => ⟨hb.1, hb.2.1⟩) (fun b hb => HM.out.eown.lt b hb)
      have hVS2 : VS wr (fun b => w.heap.size + 1 ≤ b ∧ b < wr.heap.size) EA N (fun j => (L.map (edT sw)).getD j .leaf) := vs_congr hVS (fun j hj => by
        show ((l.map wantE).map (edT sw)).getD j .leaf = (L.map (edT sw)).getD j .leaf
        rw [List.getD_eq_getElem?_getD, List.getD_eq_getElem?_getD, ← hL]
        simp [List.getElem?_take, hj])
      have HHW := Lib.hid HM.out.how
      have HBw := Lib.hid HM.out.below
      have HK1 := Lib.hid HM.out.size.1
      clear HM HE HO HTX hVS hL hlen
      subst hwv
      subst hev
      obtain ⟨K0, hK0⟩ : ∃ K, wr.heap.size = K := ⟨_, rfl⟩
      rw [hK0] at hES hVS2 HK1
      have HES := Lib.hid hES
      have HVS := Lib.hid hVS2
      have HQ := Lib.hid (Nat.le_of_eq hK0.symm)
      clear hES hVS2 hK0
      by_cases hpn : N < n
      · have hd0 : decide ((N : Int) < (n : Int)) = true := by simp; omega
        have hd1 : decide (N < n) = true := by simp; omega
        have hd2 : decide ((N : Int) < 32) = false := by have := HNN.out; simp; omega
        have hd3 : decide (N < 32) = false := by have := HNN.out; simp; omega
        clear hpn hlt
        go_wp2_with fail
        have hb := made_end (w := wr) (.cells #[.string ⟨#[118, 101, 114, 115, 105, 111, 110]⟩, .string ⟨#[117, 114, 105]⟩, .string ⟨#[120]⟩] 9)
        have HN22 : Hid (BK (wr.alloc (.cells #[.string ⟨#[118, 101, 114, 115, 105, 111, 110]⟩, .string ⟨#[117, 114, 105]⟩, .string ⟨#[120]⟩] 9)) wr.heap.size 9 #[.string ⟨#[118, 101, 114, 115, 105, 111, 110]⟩, .string ⟨#[117, 114, 105]⟩, .string ⟨#[120]⟩]) := Lib.hid (BK.new wr _ _)
        have HGgn : Hid (K0 ≤ wr.heap.size) := Lib.hid HQ.out
        replace HES := Lib.hid (ES.same HES.out (below_same hb (fun b z => by have := HQ.out; omega)) (fun b z => z))
        replace HVS := Lib.hid (VS.on HVS.out (fun b z => by have := HQ.out; omega) hb)
        replace HHW := Lib.hid (HHW.out.on hb)
        replace HBw := Lib.hid (HBw.out.trans (hb.mono (by have := HQ.out; have := HK1.out; omega)))
        replace HQ := Lib.hid (Nat.le_trans HQ.out hb.size)
        clear hb
        generalize (wr.alloc (.cells #[.string ⟨#[118, 101, 114, 115, 105, 111, 110]⟩, .string ⟨#[117, 114, 105]⟩, .string ⟨#[120]⟩] 9)) = wa at *
        generalize wr.heap.size = gn at *
        refine (refNumber_all ver wa (by have := HVER.out; omega)).mono ?_
        rintro e wb ⟨rfl, hb⟩
        replace HES := Lib.hid (ES.same HES.out (below_same hb (fun b z => by have := HQ.out; omega)) (fun b z => z))
        replace HVS := Lib.hid (VS.on HVS.out (fun b z => by have := HQ.out; omega) hb)
        replace HHW := Lib.hid (HHW.out.on hb)
        replace HBw := Lib.hid (HBw.out.trans (hb.mono (by have := HQ.out; have := HK1.out; omega)))
        replace HN22 := Lib.hid (HN22.out.on hb)
        replace HQ := Lib.hid (Nat.le_trans HQ.out hb.size)
        clear hb
        go_wp2_with fail
        refine (mText_any s wb).mono ?_
        rintro e wc ⟨rfl, hb⟩
        replace HES := Lib.hid (ES.same HES.out (below_same hb (fun b z => by have := HQ.out; omega)) (fun b z => z))
        replace HVS := Lib.hid (VS.on HVS.out (fun b z => by have := HQ.out; omega) hb)
        replace HHW := Lib.hid (HHW.out.on hb)
        replace HBw := Lib.hid (HBw.out.trans (hb.mono (by have := HQ.out; have := HK1.out; omega)))
        replace HN22 := Lib.hid (HN22.out.on hb)
        replace HQ := Lib.hid (Nat.le_trans HQ.out hb.size)
        clear hb
        go_wp2_with fail
        refine (mText_any _ wc).mono ?_
        rintro e wd ⟨rfl, hb⟩
        replace HES := Lib.hid (ES.same HES.out (below_same hb (fun b z => by have := HQ.out; omega)) (fun b z => z))
        replace HVS := Lib.hid (VS.on HVS.out (fun b z => by have := HQ.out; omega) hb)
        replace HHW := Lib.hid (HHW.out.on hb)
        replace HBw := Lib.hid (HBw.out.trans (hb.mono (by have := HQ.out; have := HK1.out; omega)))
        replace HN22 := Lib.hid (HN22.out.on hb)
        replace HQ := Lib.hid (Nat.le_trans HQ.out hb.size)
        clear hb
        go_wp2_with fail
        have hb := made_end (w := wd) (.cells #[.int .i64 2, .bool false, .string (bs (numS ver)), .slice none 0 0, .slice none 0 0, .int .i64 3, .bool false, .string s, .slice none 0 0, .slice none 0 0, .int .i64 3, .bool false, .string ⟨#[122]⟩, .slice none 0 0, .slice none 0 0] 30)
        have HV22 : Hid (BK (wd.alloc (.cells #[.int .i64 2, .bool false, .string (bs (numS ver)), .slice none 0 0, .slice none 0 0, .int .i64 3, .bool false, .string s, .slice none 0 0, .slice none 0 0, .int .i64 3, .bool false, .string ⟨#[122]⟩, .slice none 0 0, .slice none 0 0] 30)) wd.heap.size 30 #[.int .i64 2, .bool false, .string (bs (numS ver)), .slice none 0 0, .slice none 0 0, .int .i64 3, .bool false, .string s, .slice none 0 0, .slice none 0 0, .int .i64 3, .bool false, .string ⟨#[122]⟩, .slice none 0 0, .slice none 0 0]) := Lib.hid (BK.new wd _ _)
        have HGgv : Hid (K0 ≤ wd.heap.size) := Lib.hid HQ.out
        replace HES := Lib.hid (ES.same HES.out (below_same hb (fun b z => by have := HQ.out; omega)) (fun b z => z))
        replace HVS := Lib.hid (VS.on HVS.out (fun b z => by have := HQ.out; omega) hb)
        replace HHW := Lib.hid (HHW.out.on hb)
        replace HBw := Lib.hid (HBw.out.trans (hb.mono (by have := HQ.out; have := HK1.out; omega)))
        replace HN22 := Lib.hid (HN22.out.on hb)
        replace HQ := Lib.hid (Nat.le_trans HQ.out hb.size)
        clear hb
        generalize (wd.alloc (.cells #[.int .i64 2, .bool false, .string (bs (numS ver)), .slice none 0 0, .slice none 0 0, .int .i64 3, .bool false, .string s, .slice none 0 0, .slice none 0 0, .int .i64 3, .bool false, .string ⟨#[122]⟩, .slice none 0 0, .slice none 0 0] 30)) = we at *
        generalize wd.heap.size = gv at *
        refine (mObject_any _ _ _ _ _ _ we).mono ?_
        rintro e wf ⟨rfl, hb⟩
        replace HES := Lib.hid (ES.same HES.out (below_same hb (fun b z => by have := HQ.out; omega)) (fun b z => z))
        replace HVS := Lib.hid (VS.on HVS.out (fun b z => by have := HQ.out; omega) hb)
        replace HHW := Lib.hid (HHW.out.on hb)
        replace HBw := Lib.hid (HBw.out.trans (hb.mono (by have := HQ.out; have := HK1.out; omega)))
        replace HN22 := Lib.hid (HN22.out.on hb)
        replace HV22 := Lib.hid (HV22.out.on hb)
        replace HQ := Lib.hid (Nat.le_trans HQ.out hb.size)
        clear hb
        go_upto_region 23 with (fail)
        have hb := made_end (w := wf) (.cells #[.int .i64 5, .bool false, .string ⟨#[]⟩, .slice (some ⟨gv, 0, none⟩) 3 3, .slice (some ⟨gn, 0, none⟩) 3 3] 30)
        have HX15 : Hid (BK (wf.alloc (.cells #[.int .i64 5, .bool false, .string ⟨#[]⟩, .slice (some ⟨gv, 0, none⟩) 3 3, .slice (some ⟨gn, 0, none⟩) 3 3] 30)) wf.heap.size 30 #[.int .i64 5, .bool false, .string ⟨#[]⟩, .slice (some ⟨gv, 0, none⟩) 3 3, .slice (some ⟨gn, 0, none⟩) 3 3]) := Lib.hid (BK.new wf _ _)
        have HGg15 : Hid (K0 ≤ wf.heap.size) := Lib.hid HQ.out
        replace HES := Lib.hid (ES.same HES.out (below_same hb (fun b z => by have := HQ.out; omega)) (fun b z => z))
        replace HVS := Lib.hid (VS.on HVS.out (fun b z => by have := HQ.out; omega) hb)
        replace HHW := Lib.hid (HHW.out.on hb)
        replace HBw := Lib.hid (HBw.out.trans (hb.mono (by have := HQ.out; have := HK1.out; omega)))
        replace HN22 := Lib.hid (HN22.out.on hb)
        replace HV22 := Lib.hid (HV22.out.on hb)
        replace HQ := Lib.hid (Nat.le_trans HQ.out hb.size)
        clear hb
        generalize (wf.alloc (.cells #[.int .i64 5, .bool false, .string ⟨#[]⟩, .slice (some ⟨gv, 0, none⟩) 3 3, .slice (some ⟨gn, 0, none⟩) 3 3] 30)) = wg at *
        generalize wf.heap.size = g15 at *
        have HDOC : Hid (VAL wg (fun b => b < wg.heap.size) (docT ver s) (.agg #[.int .i64 5, .bool false, .string ⟨#[]⟩, .slice (some ⟨gv, 0, none⟩) 3 3, .slice (some ⟨gn, 0, none⟩) 3 3])) := Lib.hid (VAL.shut (n := 3) (m := [VT.versionN, VT.uriN, xN]) (c := fun j => [nbT ver, txT s, txT ⟨#[122]⟩].getD j .leaf) (by decide) (ts_of_bk HN22.out [VT.versionN, VT.uriN, xN] rfl HN22.out.lt) (vs_of_bk HV22.out [nbT ver, txT s, txT ⟨#[122]⟩] (VR.cons (VAL.shut (by decide) (.inl rfl) (.inl rfl)) (VR.cons (VAL.shut (by decide) (.inl rfl) (.inl rfl)) (VR.cons (VAL.shut (by decide) (.inl rfl) (.inl rfl)) (VR.none _ _)))) HV22.out.lt))
        obtain ⟨KD, hKD⟩ : ∃ K, wg.heap.size = K := ⟨_, rfl⟩
        rw [hKD] at HDOC
        have HQD : Hid (KD ≤ wg.heap.size) := Lib.hid (Nat.le_of_eq hKD.symm)
        clear hKD
        go_wp2_with fail
        refine start_ (n := 8) (S := fun w' => True) (ds := []) #[false, false, false, false, false, false, false, false] (by kernel_rfl) rfl rfl trivial (fun hHeld => ?_)
        clear hHeld
        have hb : Below wg.heap.size wg wg.drew := (Below.refl _ _).drew
        replace HDOC := Lib.hid (HDOC.out.on (fun b z => by have := HQD.out; omega) hb)
        replace HQD := Lib.hid (Nat.le_trans HQD.out hb.size)
        replace HES := Lib.hid (ES.same HES.out (below_same hb (fun b z => by have := HQ.out; omega)) (fun b z => z))
        replace HVS := Lib.hid (VS.on HVS.out (fun b z => by have := HQ.out; omega) hb)
        replace HHW := Lib.hid (HHW.out.on hb)
        replace HBw := Lib.hid (HBw.out.trans (hb.mono (by have := HQ.out; have := HK1.out; omega)))
        replace HX15 := Lib.hid (HX15.out.on hb)
        replace HQ := Lib.hid (Nat.le_trans HQ.out hb.size)
        
        clear hb
        generalize wg.drew = c23 at *
        refine inv_ (B := [0, 0, 2, 0, 14, 31, 0, 127]) [0, 1, 2, 3, 4, 5, 6, 7] (ToldI _ (tl_bk23 (zNew 0) c23.heap.size EA N ecap gv gn g15) 7 c23 _) rfl (by kernel_rfl) (by kernel_rfl) (by kernel_rfl) told_begin ?_ (told_end (by kernel_rfl))
        refine steps_cons (told_step 0 (tl_bk23_ok (zNew 0) c23.heap.size EA N ecap gv gn g15) (tl_bk23_up (zNew 0) c23.heap.size EA N ecap gv gn g15) rfl (by kernel_rfl) ?_) ?_
        · intro bb V a w' ha hB hF hon
          refine ⟨_, rfl, rfl, fun K hK => ?_⟩
          refine value_ (w1 := w'.alloc (.cells #[.string ⟨#[99, 111, 110, 116, 101, 110, 116, 67, 104, 97, 110, 103, 101, 115]⟩, .string ⟨#[116, 101, 120, 116, 68, 111, 99, 117, 109, 101, 110, 116]⟩] 9)) (v := .slice (some ⟨w'.heap.size, 0, none⟩) 2 2) rfl rfl ?_ (hK _ _ ((Below.refl _ _).alloc (Nat.le_refl _) _) (BLKV_new _ _ _ _ hB.size))
          clear ha hF hon hK K
          go_simp
          all_goals first | rfl | (constructor <;> rfl)
        refine steps_cons (told_step 1 (tl_bk23_ok (zNew 0) c23.heap.size EA N ecap gv gn g15) (tl_bk23_up (zNew 0) c23.heap.size EA N ecap gv gn g15) rfl (by kernel_rfl) ?_) ?_
        · intro bb V a w' ha hB hF hon
          refine ⟨_, rfl, rfl, fun K hK => ?_⟩
          have e10 : a.tmps[10]? = some (.slice EA N ecap) := by rw [ha]; exact (putSel_off (by rfl)).trans rfl
          refine value_ (w1 := w') (v := .slice EA N ecap) rfl rfl ?_ (hK _ _ (Below.refl _ _) rfl)
          clear ha hF hon hK K
          go_simp
          all_goals first | rfl | (constructor <;> rfl)
        refine steps_cons (told_step 2 (tl_bk23_ok (zNew 0) c23.heap.size EA N ecap gv gn g15) (tl_bk23_up (zNew 0) c23.heap.size EA N ecap gv gn g15) rfl (by kernel_rfl) ?_) ?_
        · intro bb V a w' ha hB hF hon
          refine ⟨_, rfl, rfl, fun K hK => ?_⟩
          have e129 := told_get 1 (tl_bk23_ok (zNew 0) c23.heap.size EA N ecap gv gn g15) rfl ha (hon 1 (by kernel_rfl)) (by kernel_rfl)
          have F129 : V 1 = .slice EA N ecap := told_fact 1 hF rfl (hon 1 (by kernel_rfl))
          rw [F129] at e129
          refine goes_ Tryz.func38 (by kernel_rfl) rfl #[.slice EA N ecap] rfl rfl rfl (by simp only [List.map_toArray, List.map_cons, List.map_nil, Act.eval, Array.getD_eq_getD_getElem?, e129, Option.getD_some]) ?_
          refine (mList_any _ _ _ w').mono ?_
          rintro e w'' ⟨rfl, hb⟩
          exact ⟨_, rfl, hK _ w'' hb rfl⟩
        refine steps_cons (told_step 3 (tl_bk23_ok (zNew 0) c23.heap.size EA N ecap gv gn g15) (tl_bk23_up (zNew 0) c23.heap.size EA N ecap gv gn g15) rfl (by kernel_rfl) ?_) ?_
        · intro bb V a w' ha hB hF hon
          refine ⟨_, rfl, rfl, fun K hK => ?_⟩
          have e15 : a.tmps[15]? = some (.pointer (some ⟨g15, 0, none⟩)) := by rw [ha]; exact (putSel_off (by rfl)).trans rfl
          have hg := HX15.out.on hB
          have y0 := hg.c 0 rfl
          have y1 := hg.c 1 rfl
          have y2 := hg.c 2 rfl
          have y3 := hg.c 3 rfl
          have y4 := hg.c 4 rfl
          clear hg
          refine value_ (w1 := w') (v := .agg #[.int .i64 5, .bool false, .string ⟨#[]⟩, .slice (some ⟨gv, 0, none⟩) 3 3, .slice (some ⟨gn, 0, none⟩) 3 3]) rfl rfl ?_ (hK _ _ (Below.refl _ _) rfl)
          clear ha hF hon hK K
          go_simp
          all_goals first | rfl | (constructor <;> rfl)
        refine steps_cons (told_step 4 (tl_bk23_ok (zNew 0) c23.heap.size EA N ecap gv gn g15) (tl_bk23_up (zNew 0) c23.heap.size EA N ecap gv gn g15) rfl (by kernel_rfl) ?_) ?_
        · intro bb V a w' ha hB hF hon
          refine ⟨_, rfl, rfl, fun K hK => ?_⟩
          have e130 := told_get 2 (tl_bk23_ok (zNew 0) c23.heap.size EA N ecap gv gn g15) rfl ha (hon 2 (by kernel_rfl)) (by kernel_rfl)
          have F130 : V 2 = .agg #[.int .i64 4, .bool false, .string ⟨#[]⟩, .slice EA N ecap, .slice none 0 0] := told_fact 2 hF rfl (hon 2 (by kernel_rfl))
          rw [F130] at e130
          have e131 := told_get 3 (tl_bk23_ok (zNew 0) c23.heap.size EA N ecap gv gn g15) rfl ha (hon 3 (by kernel_rfl)) (by kernel_rfl)
          have F131 : V 3 = .agg #[.int .i64 5, .bool false, .string ⟨#[]⟩, .slice (some ⟨gv, 0, none⟩) 3 3, .slice (some ⟨gn, 0, none⟩) 3 3] := told_fact 3 hF rfl (hon 3 (by kernel_rfl))
          rw [F131] at e131
          refine value_ (w1 := w'.alloc (.cells #[.int .i64 4, .bool false, .string ⟨#[]⟩, .slice EA N ecap, .slice none 0 0, .int .i64 5, .bool false, .string ⟨#[]⟩, .slice (some ⟨gv, 0, none⟩) 3 3, .slice (some ⟨gn, 0, none⟩) 3 3] 30)) (v := .slice (some ⟨w'.heap.size, 0, none⟩) 2 2) rfl rfl ?_ (hK _ _ ((Below.refl _ _).alloc (Nat.le_refl _) _) (BLKV_new _ _ _ _ hB.size))
          clear ha hF hon hK K
          go_simp
          all_goals first | rfl | (constructor <;> rfl)
        refine steps_cons (told_step 5 (tl_bk23_ok (zNew 0) c23.heap.size EA N ecap gv gn g15) (tl_bk23_up (zNew 0) c23.heap.size EA N ecap gv gn g15) rfl (by kernel_rfl) ?_) ?_
        · intro bb V a w' ha hB hF hon
          refine ⟨_, rfl, rfl, fun K hK => ?_⟩
          have e128 := told_get 0 (tl_bk23_ok (zNew 0) c23.heap.size EA N ecap gv gn g15) rfl ha (hon 0 (by kernel_rfl)) (by kernel_rfl)
          have F128 := told_fact 0 hF rfl (hon 0 (by kernel_rfl))
          have e132 := told_get 4 (tl_bk23_ok (zNew 0) c23.heap.size EA N ecap gv gn g15) rfl ha (hon 4 (by kernel_rfl)) (by kernel_rfl)
          have F132 := told_fact 4 hF rfl (hon 4 (by kernel_rfl))
          refine goes_ Tryz.func32 (by kernel_rfl) rfl #[V 0, V 4] rfl rfl rfl (by simp only [List.map_toArray, List.map_cons, List.map_nil, Act.eval, Array.getD_eq_getD_getElem?, e128, e132, Option.getD_some]) ?_
          obtain ⟨q1, hq1, hq1c, hq1b⟩ := F128
          obtain ⟨q2, hq2, hq2c, hq2b⟩ := F132
          rw [hq1, hq2]
          refine (mObject_any _ _ _ _ _ _ w').mono ?_
          rintro e w'' ⟨rfl, hb⟩
          exact ⟨_, rfl, hK _ w'' hb ⟨q1, q2, rfl, hq1c, hq2c, hq1b.on hb, hq2b.on hb⟩⟩
        refine steps_cons (told_step 6 (tl_bk23_ok (zNew 0) c23.heap.size EA N ecap gv gn g15) (tl_bk23_up (zNew 0) c23.heap.size EA N ecap gv gn g15) rfl (by kernel_rfl) ?_) ?_
        · intro bb V a w' ha hB hF hon
          refine ⟨_, rfl, rfl, fun K hK => ?_⟩
          refine value_ (w1 := w'.alloc (.cells #[.int .i64 0, .bool false, .string ⟨#[]⟩, .slice none 0 0, .slice none 0 0] 30)) (v := .pointer (some ⟨w'.heap.size, 0, none⟩)) rfl rfl ?_ (hK _ _ ((Below.refl _ _).alloc (Nat.le_refl _) _) (BOXV_new _ _ _ hB.size))
          clear ha hF hon hK K
          go_simp
          all_goals first | rfl | (constructor <;> rfl)
        refine steps_cons (told_last ?_ ?_) steps_nil
        · intro e he; simp only [tl_bk23, List.mem_cons, List.mem_nil_iff, or_false] at he; rcases he with rfl | rfl | rfl | rfl | rfl | rfl | rfl <;> kernel_rfl
        intro V a w' ha hB hF
        refine ⟨_, rfl, rfl, fun K hK => ?_⟩
        have e133 := told_get 5 (tl_bk23_ok (zNew 0) c23.heap.size EA N ecap gv gn g15) rfl ha rfl (by kernel_rfl)
        have F133 := hF _ (List.mem_of_getElem? (i := 5) rfl)
        have e16 := told_get 6 (tl_bk23_ok (zNew 0) c23.heap.size EA N ecap gv gn g15) rfl ha rfl (by kernel_rfl)
        have F16 := hF _ (List.mem_of_getElem? (i := 6) rfl)
        obtain ⟨qn, ql, hv133, hqn, hql, bqn, bql⟩ := F133
        rw [hv133] at e133
        obtain ⟨g16, hv16, hgC, hbk⟩ := F16
        rw [hv16] at e16
        have y0 := hbk.c 0 rfl
        have f0 := hbk.fr 0
        have y1 := hbk.c 1 rfl
        have f1 := hbk.fr 1
        have y2 := hbk.c 2 rfl
        have f2 := hbk.fr 2
        have y3 := hbk.c 3 rfl
        have f3 := hbk.fr 3
        have y4 := hbk.c 4 rfl
        have f4 := hbk.fr 4
        refine skip_ (w1 := setAll g16 w' 0 [.int .i64 5, .bool false, .string ⟨#[]⟩, .slice (some ⟨ql, 0, none⟩) 2 2, .slice (some ⟨qn, 0, none⟩) 2 2]) rfl rfl ?_ (hK _ _ ?_)
        · clear ha hF hK K
          go_simp
          all_goals first | rfl | (constructor <;> rfl)
        clear hK K hF e133 e16 y0 f0 y1 f1 y2 f2 y3 f3 y4 f4
        have hnb := hbk.all [.int .i64 5, .bool false, .string ⟨#[]⟩, .slice (some ⟨ql, 0, none⟩) 2 2, .slice (some ⟨qn, 0, none⟩) 2 2] rfl
        have hbs := setAll_below g16 hgC [.int .i64 5, .bool false, .string ⟨#[]⟩, .slice (some ⟨ql, 0, none⟩) 2 2, .slice (some ⟨qn, 0, none⟩) 2 2] w' 0 hB
        have HX16 := Lib.hid hnb
        have h15 := HX15.out.lt
        have hd1' := hbk.ne bqn (by decide)
        have hd2' := hbk.ne bql (by simp)
        have HBN := Lib.hid ((setAll_same (S := fun b => b = qn) g16 [.int .i64 5, .bool false, .string ⟨#[]⟩, .slice (some ⟨ql, 0, none⟩) 2 2, .slice (some ⟨qn, 0, none⟩) 2 2] (fun b hb e => hd1' (by rw [← e, hb])) w' 0 qn rfl).trans bqn)
        have HBL := Lib.hid ((setAll_same (S := fun b => b = ql) g16 [.int .i64 5, .bool false, .string ⟨#[]⟩, .slice (some ⟨ql, 0, none⟩) 2 2, .slice (some ⟨qn, 0, none⟩) 2 2] (fun b hb e => hd2' (by rw [← e, hb])) w' 0 ql rfl).trans bql)
        have HG23 : Hid (g16 ≠ g15 ∧ K0 ≤ g16 ∧ KD ≤ g16) := Lib.hid ⟨by omega, Nat.le_trans HQ.out hgC, Nat.le_trans HQD.out hgC⟩
        replace HDOC := Lib.hid (HDOC.out.on (fun b z => by have := HQD.out; omega) hbs)
        replace HQD := Lib.hid (Nat.le_trans HQD.out hbs.size)
        replace HES := Lib.hid (ES.same HES.out (below_same hbs (fun b z => by have := HQ.out; omega)) (fun b z => z))
        replace HVS := Lib.hid (VS.on HVS.out (fun b z => by have := HQ.out; omega) hbs)
        replace HHW := Lib.hid (HHW.out.on hbs)
        replace HBw := Lib.hid (HBw.out.trans (hbs.mono (by have := HQ.out; have := HK1.out; omega)))
        replace HX15 := Lib.hid (HX15.out.on hbs)
        replace HQ := Lib.hid (Nat.le_trans HQ.out hbs.size)
        clear hnb hbs hgC hqn hql bqn bql h15 hd1' hd2'
        generalize setAll g16 w' 0 [.int .i64 5, .bool false, .string ⟨#[]⟩, .slice (some ⟨ql, 0, none⟩) 2 2, .slice (some ⟨qn, 0, none⟩) 2 2] = wh at *
        rw [ha]
        clear ha hB hbk
        simp only [tl_bk23, Tolds.put, List.map_cons, List.map_nil, putSel, if_true, Act.put, List.setIfInBounds_toArray, List.set_cons_zero, List.set_cons_succ, hv16, hv133]
        clear hv16 hv133
        generalize V 0 = u0
        generalize V 1 = u1
        generalize V 2 = u2
        generalize V 3 = u3
        generalize V 4 = u4
        try clear V
        replace HBN : Hid (BK wh qn 9 #[.string ⟨#[99, 111, 110, 116, 101, 110, 116, 67, 104, 97, 110, 103, 101, 115]⟩, .string ⟨#[116, 101, 120, 116, 68, 111, 99, 117, 109, 101, 110, 116]⟩]) := HBN
        replace HBL : Hid (BK wh ql 30 #[.int .i64 4, .bool false, .string ⟨#[]⟩, .slice EA N ecap, .slice none 0 0, .int .i64 5, .bool false, .string ⟨#[]⟩, .slice (some ⟨gv, 0, none⟩) 3 3, .slice (some ⟨gn, 0, none⟩) 3 3]) := HBL
        replace HX16 : Hid (BK wh g16 30 #[.int .i64 5, .bool false, .string ⟨#[]⟩, .slice (some ⟨ql, 0, none⟩) 2 2, .slice (some ⟨qn, 0, none⟩) 2 2]) := HX16
        have HBACK : Hid (VAL wh (fun b => b < wh.heap.size) (backT false (L.map (edT sw)) (docT ver s)) (.agg #[.int .i64 5, .bool false, .string ⟨#[]⟩, .slice (some ⟨ql, 0, none⟩) 2 2, .slice (some ⟨qn, 0, none⟩) 2 2])) := Lib.hid (by
          have hls : VAL wh (fun b => b < wh.heap.size) (lsT (L.map (edT sw))) (.agg #[.int .i64 4, .bool false, .string ⟨#[]⟩, .slice EA N ecap, .slice none 0 0]) := (by
            have h := HVS.out
            rw [← HNE.out] at h ⊢
            exact VAL.shut (by decide) (.inl rfl) (h.mono (fun b z => by have := HQ.out; omega)))
          exact VAL.shut (n := 2) (m := [VT.changesN, VT.tdN]) (c := fun j => [lsT (L.map (edT sw)), docT ver s].getD j .leaf) (by decide) (ts_of_bk HBN.out [VT.changesN, VT.tdN] rfl HBN.out.lt) (vs_of_bk HBL.out [lsT (L.map (edT sw)), docT ver s] (VR.cons hls (VR.cons (HDOC.out.mono (fun b z => by have := HQD.out; omega)) (VR.none _ _))) HBL.out.lt))
        clear HBN HBL
        have k2 := HHW.out.c 2 rfl
        go_wp2_with fail
        clear k2
        obtain ⟨sw2, HSW2⟩ : ∃ sw2 : Bool, Hid (decide (h2 % 2 = 1) = sw2) := ⟨_, Lib.hid rfl⟩
        refine (Bring2_any h2 2 wh Q2.out (by omega)).mono ?_
        rintro e wi ⟨rfl, hb⟩
        replace HBACK := Lib.hid ((HBACK.out.on (fun b h => h) hb).mono (fun b h => Nat.lt_of_lt_of_le h hb.size))
        replace HDOC := Lib.hid (HDOC.out.on (fun b z => by have := HQD.out; omega) hb)
        replace HQD := Lib.hid (Nat.le_trans HQD.out hb.size)
        replace HES := Lib.hid (ES.same HES.out (below_same hb (fun b z => by have := HQ.out; omega)) (fun b z => z))
        replace HVS := Lib.hid (VS.on HVS.out (fun b z => by have := HQ.out; omega) hb)
        replace HHW := Lib.hid (HHW.out.on hb)
        replace HBw := Lib.hid (HBw.out.trans (hb.mono (by have := HQ.out; have := HK1.out; omega)))
        replace HX15 := Lib.hid (HX15.out.on hb)
        replace HX16 := Lib.hid (HX16.out.on hb)
        replace HQ := Lib.hid (Nat.le_trans HQ.out hb.size)
        clear hb
        have hd := HSW2.out
        generalize h2 % 2 = qz at hd ⊢
        rcases Bool.eq_false_or_eq_true sw2 with hsw | hsw
        · skip
          rw [hsw] at hd
          obtain rfl : qz = 1 := of_decide_eq_true hd
          clear hd HBACK
          go_wp2_with fail
          refine start_ (n := 9) (S := fun w' => True) (ds := []) #[false, false, false, false, false, false, false, false, false] (by kernel_rfl) rfl rfl trivial (fun hHeld => ?_)
          clear hHeld
          have hb : Below wi.heap.size wi wi.drew := (Below.refl _ _).drew
          replace HDOC := Lib.hid (HDOC.out.on (fun b z => by have := HQD.out; omega) hb)
          replace HQD := Lib.hid (Nat.le_trans HQD.out hb.size)
          replace HES := Lib.hid (ES.same HES.out (below_same hb (fun b z => by have := HQ.out; omega)) (fun b z => z))
          replace HVS := Lib.hid (VS.on HVS.out (fun b z => by have := HQ.out; omega) hb)
          replace HHW := Lib.hid (HHW.out.on hb)
          replace HBw := Lib.hid (HBw.out.trans (hb.mono (by have := HQ.out; have := HK1.out; omega)))
          replace HX15 := Lib.hid (HX15.out.on hb)
          replace HX16 := Lib.hid (HX16.out.on hb)
          replace HQ := Lib.hid (Nat.le_trans HQ.out hb.size)
          clear hb
          generalize wi.drew = c25 at *
          refine inv_ (B := [0, 0, 2, 0, 0, 22, 62, 127, 255]) [0, 1, 2, 3, 4, 5, 6, 7, 8] (ToldI _ (tl_bk25 (zNew 0) c25.heap.size EA N ecap gv gn g15) 8 c25 _) rfl (by kernel_rfl) (by kernel_rfl) (by kernel_rfl) told_begin ?_ (told_end (by kernel_rfl))
          refine steps_cons (told_step 0 (tl_bk25_ok (zNew 0) c25.heap.size EA N ecap gv gn g15) (tl_bk25_up (zNew 0) c25.heap.size EA N ecap gv gn g15) rfl (by kernel_rfl) ?_) ?_
          · intro bb V a w' ha hB hF hon
            refine ⟨_, rfl, rfl, fun K hK => ?_⟩
            refine value_ (w1 := w'.alloc (.cells #[.string ⟨#[99, 111, 110, 116, 101, 110, 116, 67, 104, 97, 110, 103, 101, 115]⟩, .string ⟨#[120]⟩, .string ⟨#[116, 101, 120, 116, 68, 111, 99, 117, 109, 101, 110, 116]⟩, .string ⟨#[99, 111, 110, 116, 101, 110, 116, 67, 104, 97, 110, 103, 101, 115]⟩] 9)) (v := .slice (some ⟨w'.heap.size, 0, none⟩) 4 4) rfl rfl ?_ (hK _ _ ((Below.refl _ _).alloc (Nat.le_refl _) _) (BLKV_new _ _ _ _ hB.size))
            clear ha hF hon hK K
            go_simp
            all_goals first | rfl | (constructor <;> rfl)
          refine steps_cons (told_step 1 (tl_bk25_ok (zNew 0) c25.heap.size EA N ecap gv gn g15) (tl_bk25_up (zNew 0) c25.heap.size EA N ecap gv gn g15) rfl (by kernel_rfl) ?_) ?_
          · intro bb V a w' ha hB hF hon
            refine ⟨_, rfl, rfl, fun K hK => ?_⟩
            refine goes_ Tryz.func33 (by kernel_rfl) rfl #[.string ⟨#[111, 108, 100]⟩] rfl rfl rfl (by simp only [List.map_toArray, List.map_cons, List.map_nil, Act.eval, Array.getD_eq_getD_getElem?, Option.getD_some]) ?_
            refine (mText_any ⟨#[111, 108, 100]⟩ w').mono ?_
            rintro e w'' ⟨rfl, hb⟩
            exact ⟨_, rfl, hK _ w'' hb rfl⟩
          refine steps_cons (told_step 2 (tl_bk25_ok (zNew 0) c25.heap.size EA N ecap gv gn g15) (tl_bk25_up (zNew 0) c25.heap.size EA N ecap gv gn g15) rfl (by kernel_rfl) ?_) ?_
          · intro bb V a w' ha hB hF hon
            refine ⟨_, rfl, rfl, fun K hK => ?_⟩
            refine goes_ Tryz.func38 (by kernel_rfl) rfl #[.slice none 0 0] rfl rfl rfl (by simp only [List.map_toArray, List.map_cons, List.map_nil, Act.eval, Array.getD_eq_getD_getElem?, Option.getD_some]) ?_
            refine (mList_any _ _ _ w').mono ?_
            rintro e w'' ⟨rfl, hb⟩
            exact ⟨_, rfl, hK _ w'' hb rfl⟩
          refine steps_cons (told_step 3 (tl_bk25_ok (zNew 0) c25.heap.size EA N ecap gv gn g15) (tl_bk25_up (zNew 0) c25.heap.size EA N ecap gv gn g15) rfl (by kernel_rfl) ?_) ?_
          · intro bb V a w' ha hB hF hon
            refine ⟨_, rfl, rfl, fun K hK => ?_⟩
            have e15 : a.tmps[15]? = some (.pointer (some ⟨g15, 0, none⟩)) := by rw [ha]; exact (putSel_off (by rfl)).trans rfl
            have hg := HX15.out.on hB
            have y0 := hg.c 0 rfl
            have y1 := hg.c 1 rfl
            have y2 := hg.c 2 rfl
            have y3 := hg.c 3 rfl
            have y4 := hg.c 4 rfl
            clear hg
            refine value_ (w1 := w') (v := .agg #[.int .i64 5, .bool false, .string ⟨#[]⟩, .slice (some ⟨gv, 0, none⟩) 3 3, .slice (some ⟨gn, 0, none⟩) 3 3]) rfl rfl ?_ (hK _ _ (Below.refl _ _) rfl)
            clear ha hF hon hK K
            go_simp
            all_goals first | rfl | (constructor <;> rfl)
          refine steps_cons (told_step 4 (tl_bk25_ok (zNew 0) c25.heap.size EA N ecap gv gn g15) (tl_bk25_up (zNew 0) c25.heap.size EA N ecap gv gn g15) rfl (by kernel_rfl) ?_) ?_
          · intro bb V a w' ha hB hF hon
            refine ⟨_, rfl, rfl, fun K hK => ?_⟩
            have e10 : a.tmps[10]? = some (.slice EA N ecap) := by rw [ha]; exact (putSel_off (by rfl)).trans rfl
            refine value_ (w1 := w') (v := .slice EA N ecap) rfl rfl ?_ (hK _ _ (Below.refl _ _) rfl)
            clear ha hF hon hK K
            go_simp
            all_goals first | rfl | (constructor <;> rfl)
          refine steps_cons (told_step 5 (tl_bk25_ok (zNew 0) c25.heap.size EA N ecap gv gn g15) (tl_bk25_up (zNew 0) c25.heap.size EA N ecap gv gn g15) rfl (by kernel_rfl) ?_) ?_
          · intro bb V a w' ha hB hF hon
            refine ⟨_, rfl, rfl, fun K hK => ?_⟩
            have e142 := told_get 4 (tl_bk25_ok (zNew 0) c25.heap.size EA N ecap gv gn g15) rfl ha (hon 4 (by kernel_rfl)) (by kernel_rfl)
            have F142 : V 4 = .slice EA N ecap := told_fact 4 hF rfl (hon 4 (by kernel_rfl))
            rw [F142] at e142
            refine goes_ Tryz.func38 (by kernel_rfl) rfl #[.slice EA N ecap] rfl rfl rfl (by simp only [List.map_toArray, List.map_cons, List.map_nil, Act.eval, Array.getD_eq_getD_getElem?, e142, Option.getD_some]) ?_
            refine (mList_any _ _ _ w').mono ?_
            rintro e w'' ⟨rfl, hb⟩
            exact ⟨_, rfl, hK _ w'' hb rfl⟩
          refine steps_cons (told_step 6 (tl_bk25_ok (zNew 0) c25.heap.size EA N ecap gv gn g15) (tl_bk25_up (zNew 0) c25.heap.size EA N ecap gv gn g15) rfl (by kernel_rfl) ?_) ?_
          · intro bb V a w' ha hB hF hon
            refine ⟨_, rfl, rfl, fun K hK => ?_⟩
            have e139 := told_get 1 (tl_bk25_ok (zNew 0) c25.heap.size EA N ecap gv gn g15) rfl ha (hon 1 (by kernel_rfl)) (by kernel_rfl)
            have F139 : V 1 = .agg #[.int .i64 3, .bool false, .string ⟨#[111, 108, 100]⟩, .slice none 0 0, .slice none 0 0] := told_fact 1 hF rfl (hon 1 (by kernel_rfl))
            rw [F139] at e139
            have e140 := told_get 2 (tl_bk25_ok (zNew 0) c25.heap.size EA N ecap gv gn g15) rfl ha (hon 2 (by kernel_rfl)) (by kernel_rfl)
            have F140 : V 2 = .agg #[.int .i64 4, .bool false, .string ⟨#[]⟩, .slice none 0 0, .slice none 0 0] := told_fact 2 hF rfl (hon 2 (by kernel_rfl))
            rw [F140] at e140
            have e141 := told_get 3 (tl_bk25_ok (zNew 0) c25.heap.size EA N ecap gv gn g15) rfl ha (hon 3 (by kernel_rfl)) (by kernel_rfl)
            have F141 : V 3 = .agg #[.int .i64 5, .bool false, .string ⟨#[]⟩, .slice (some ⟨gv, 0, none⟩) 3 3, .slice (some ⟨gn, 0, none⟩) 3 3] := told_fact 3 hF rfl (hon 3 (by kernel_rfl))
            rw [F141] at e141
            have e143 := told_get 5 (tl_bk25_ok (zNew 0) c25.heap.size EA N ecap gv gn g15) rfl ha (hon 5 (by kernel_rfl)) (by kernel_rfl)
            have F143 : V 5 = .agg #[.int .i64 4, .bool false, .string ⟨#[]⟩, .slice EA N ecap, .slice none 0 0] := told_fact 5 hF rfl (hon 5 (by kernel_rfl))
            rw [F143] at e143
            refine value_ (w1 := w'.alloc (.cells #[.int .i64 3, .bool false, .string ⟨#[111, 108, 100]⟩, .slice none 0 0, .slice none 0 0, .int .i64 4, .bool false, .string ⟨#[]⟩, .slice none 0 0, .slice none 0 0, .int .i64 5, .bool false, .string ⟨#[]⟩, .slice (some ⟨gv, 0, none⟩) 3 3, .slice (some ⟨gn, 0, none⟩) 3 3, .int .i64 4, .bool false, .string ⟨#[]⟩, .slice EA N ecap, .slice none 0 0] 30)) (v := .slice (some ⟨w'.heap.size, 0, none⟩) 4 4) rfl rfl ?_ (hK _ _ ((Below.refl _ _).alloc (Nat.le_refl _) _) (BLKV_new _ _ _ _ hB.size))
            clear ha hF hon hK K
            go_simp
            all_goals first | rfl | (constructor <;> rfl)
          refine steps_cons (told_step 7 (tl_bk25_ok (zNew 0) c25.heap.size EA N ecap gv gn g15) (tl_bk25_up (zNew 0) c25.heap.size EA N ecap gv gn g15) rfl (by kernel_rfl) ?_) ?_
          · intro bb V a w' ha hB hF hon
            refine ⟨_, rfl, rfl, fun K hK => ?_⟩
            have e138 := told_get 0 (tl_bk25_ok (zNew 0) c25.heap.size EA N ecap gv gn g15) rfl ha (hon 0 (by kernel_rfl)) (by kernel_rfl)
            have F138 := told_fact 0 hF rfl (hon 0 (by kernel_rfl))
            have e144 := told_get 6 (tl_bk25_ok (zNew 0) c25.heap.size EA N ecap gv gn g15) rfl ha (hon 6 (by kernel_rfl)) (by kernel_rfl)
            have F144 := told_fact 6 hF rfl (hon 6 (by kernel_rfl))
            refine goes_ Tryz.func32 (by kernel_rfl) rfl #[V 0, V 6] rfl rfl rfl (by simp only [List.map_toArray, List.map_cons, List.map_nil, Act.eval, Array.getD_eq_getD_getElem?, e138, e144, Option.getD_some]) ?_
            obtain ⟨q1, hq1, hq1c, hq1b⟩ := F138
            obtain ⟨q2, hq2, hq2c, hq2b⟩ := F144
            rw [hq1, hq2]
            refine (mObject_any _ _ _ _ _ _ w').mono ?_
            rintro e w'' ⟨rfl, hb⟩
            exact ⟨_, rfl, hK _ w'' hb ⟨q1, q2, rfl, hq1c, hq2c, hq1b.on hb, hq2b.on hb⟩⟩
          refine steps_cons (told_last ?_ ?_) steps_nil
          · intro e he; simp only [tl_bk25, List.mem_cons, List.mem_nil_iff, or_false] at he; rcases he with rfl | rfl | rfl | rfl | rfl | rfl | rfl | rfl <;> kernel_rfl
          intro V a w' ha hB hF
          refine ⟨_, rfl, rfl, fun K hK => ?_⟩
          have e145 := told_get 7 (tl_bk25_ok (zNew 0) c25.heap.size EA N ecap gv gn g15) rfl ha rfl (by kernel_rfl)
          have F145 := hF _ (List.mem_of_getElem? (i := 7) rfl)
          obtain ⟨rn, rl, hv145, hrn, hrl, brn, brl⟩ := F145
          rw [hv145] at e145
          have e16 : a.tmps[16]? = some (.pointer (some ⟨g16, 0, none⟩)) := by rw [ha]; exact (putSel_off (by rfl)).trans rfl
          have hg := HX16.out.on hB
          have y0 := hg.c 0 rfl
          have f0 := hg.fr 0
          have y1 := hg.c 1 rfl
          have f1 := hg.fr 1
          have y2 := hg.c 2 rfl
          have f2 := hg.fr 2
          have y3 := hg.c 3 rfl
          have f3 := hg.fr 3
          have y4 := hg.c 4 rfl
          have f4 := hg.fr 4
          refine skip_ (w1 := (setAll g16 w' 0 [.int .i64 5, .bool false, .string ⟨#[]⟩, .slice (some ⟨rl, 0, none⟩) 4 4, .slice (some ⟨rn, 0, none⟩) 4 4])) rfl rfl ?_ (hK _ _ ?_)
          · clear ha hF hK K
            go_simp
            all_goals first | rfl | (constructor <;> rfl)
          clear hK K hF e145 e16 y0 f0 y1 f1 y2 f2 y3 f3 y4 f4
          have hnb := hg.all [.int .i64 5, .bool false, .string ⟨#[]⟩, .slice (some ⟨rl, 0, none⟩) 4 4, .slice (some ⟨rn, 0, none⟩) 4 4] rfl
          have h16 := HX16.out.lt
          have hszA := setAll_size g16 [.int .i64 5, .bool false, .string ⟨#[]⟩, .slice (some ⟨rl, 0, none⟩) 4 4, .slice (some ⟨rn, 0, none⟩) 4 4] w' 0
          have SA := fun (S : Nat → Prop) (hS : ∀ b, S b → b ≠ g16) => setAll_same (S := S) g16 [.int .i64 5, .bool false, .string ⟨#[]⟩, .slice (some ⟨rl, 0, none⟩) 4 4, .slice (some ⟨rn, 0, none⟩) 4 4] hS w' 0
          have HBN := Lib.hid ((SA (fun b => b = rn) (fun b hb => by omega) rn rfl).trans brn)
          have HBL := Lib.hid ((SA (fun b => b = rl) (fun b hb => by omega) rl rfl).trans brl)
          replace HBN : Hid (BK (setAll g16 w' 0 [.int .i64 5, .bool false, .string ⟨#[]⟩, .slice (some ⟨rl, 0, none⟩) 4 4, .slice (some ⟨rn, 0, none⟩) 4 4]) rn 9 #[.string ⟨#[99, 111, 110, 116, 101, 110, 116, 67, 104, 97, 110, 103, 101, 115]⟩, .string ⟨#[120]⟩, .string ⟨#[116, 101, 120, 116, 68, 111, 99, 117, 109, 101, 110, 116]⟩, .string ⟨#[99, 111, 110, 116, 101, 110, 116, 67, 104, 97, 110, 103, 101, 115]⟩]) := HBN
          replace HBL : Hid (BK (setAll g16 w' 0 [.int .i64 5, .bool false, .string ⟨#[]⟩, .slice (some ⟨rl, 0, none⟩) 4 4, .slice (some ⟨rn, 0, none⟩) 4 4]) rl 30 #[.int .i64 3, .bool false, .string ⟨#[111, 108, 100]⟩, .slice none 0 0, .slice none 0 0, .int .i64 4, .bool false, .string ⟨#[]⟩, .slice none 0 0, .slice none 0 0, .int .i64 5, .bool false, .string ⟨#[]⟩, .slice (some ⟨gv, 0, none⟩) 3 3, .slice (some ⟨gn, 0, none⟩) 3 3, .int .i64 4, .bool false, .string ⟨#[]⟩, .slice EA N ecap, .slice none 0 0]) := HBL
          have hbs := setAll_below g16 (B := w.heap.size) (by have := HG23.out; have := HK1.out; omega) [.int .i64 5, .bool false, .string ⟨#[]⟩, .slice (some ⟨rl, 0, none⟩) 4 4, .slice (some ⟨rn, 0, none⟩) 4 4] w' 0 (HBw.out.trans (hB.mono (by have := HQ.out; have := HK1.out; omega)))
          have hes := ES.same (S' := fun b => b < K0) (ES.same HES.out (below_same hB (fun b z => by have := HQ.out; omega)) (fun b z => z)) (SA (fun b => b < K0) (fun b hb => by have := HG23.out; omega)) (fun b z => z)
          have hvs := VS.same (VS.on HVS.out (fun b z => by have := HQ.out; omega) hB) (SA _ (fun b hb => by have := HG23.out; omega))
          have hdoc := VAL.same (SA (fun b => b < KD) (fun b hb => by have := HG23.out; omega)) (HDOC.out.on (fun b z => by have := HQD.out; omega) hB)
          have hsz : c25.heap.size ≤ (setAll g16 w' 0 [.int .i64 5, .bool false, .string ⟨#[]⟩, .slice (some ⟨rl, 0, none⟩) 4 4, .slice (some ⟨rn, 0, none⟩) 4 4]).heap.size := Nat.le_trans hB.size (Nat.le_of_eq hszA.symm)
          replace HES := Lib.hid hes
          replace HVS := Lib.hid hvs
          replace HBw := Lib.hid hbs
          replace HQ := Lib.hid (Nat.le_trans HQ.out hsz)
          replace HQD := Lib.hid (Nat.le_trans HQD.out hsz)
          replace HDOC := Lib.hid hdoc
          replace HX16 := Lib.hid hnb
          clear hes hvs hbs hsz hdoc hnb h16 hszA SA hg hrn hrl brn brl HX15 HHW
          generalize (setAll g16 w' 0 [.int .i64 5, .bool false, .string ⟨#[]⟩, .slice (some ⟨rl, 0, none⟩) 4 4, .slice (some ⟨rn, 0, none⟩) 4 4]) = wj at *
          rw [ha]
          clear ha hB
          simp only [tl_bk25, Tolds.put, List.map_cons, List.map_nil, putSel, if_true, Act.put, List.setIfInBounds_toArray, List.set_cons_zero, List.set_cons_succ, hv145]
          clear hv145
          generalize V 0 = u0
          generalize V 1 = u1
          generalize V 2 = u2
          generalize V 3 = u3
          generalize V 4 = u4
          generalize V 5 = u5
          generalize V 6 = u6
          try clear V
          replace HX16 : Hid (BK wj g16 30 #[.int .i64 5, .bool false, .string ⟨#[]⟩, .slice (some ⟨rl, 0, none⟩) 4 4, .slice (some ⟨rn, 0, none⟩) 4 4]) := HX16
          have HBACK : Hid (VAL wj (fun b => b < wj.heap.size) (backT true (L.map (edT sw)) (docT ver s)) (.agg #[.int .i64 5, .bool false, .string ⟨#[]⟩, .slice (some ⟨rl, 0, none⟩) 4 4, .slice (some ⟨rn, 0, none⟩) 4 4])) := Lib.hid (by
            have hls : VAL wj (fun b => b < wj.heap.size) (lsT (L.map (edT sw))) (.agg #[.int .i64 4, .bool false, .string ⟨#[]⟩, .slice EA N ecap, .slice none 0 0]) := (by
              have h := HVS.out
              rw [← HNE.out] at h ⊢
              exact VAL.shut (by decide) (.inl rfl) (h.mono (fun b z => by have := HQ.out; omega)))
            exact VAL.shut (n := 4) (m := [VT.changesN, xN, VT.tdN, VT.changesN]) (c := fun j => [txT ⟨#[111, 108, 100]⟩, lsT [], docT ver s, lsT (L.map (edT sw))].getD j .leaf) (by decide) (ts_of_bk HBN.out [VT.changesN, xN, VT.tdN, VT.changesN] rfl HBN.out.lt) (vs_of_bk HBL.out [txT ⟨#[111, 108, 100]⟩, lsT [], docT ver s, lsT (L.map (edT sw))] (VR.cons (VAL.shut (by decide) (.inl rfl) (.inl rfl)) (VR.cons (VAL.shut (by decide) (.inl rfl) (.inl rfl)) (VR.cons (HDOC.out.mono (fun b z => by have := HQD.out; omega)) (VR.cons hls (VR.none _ _))))) HBL.out.lt))
          clear HBN HBL HDOC hsw
          have y0 := HX16.out.c 0 rfl
          have y1 := HX16.out.c 1 rfl
          have y2 := HX16.out.c 2 rfl
          have y3 := HX16.out.c 3 rfl
          have y4 := HX16.out.c 4 rfl
          have HMw := Lib.hid (HML.out.on HBw.out)
          go_wp2_with fail
          clear y0 y1 y2 y3 y4 
          refine (Change_any _ wj _ _ HBACK.out (fun b h => h) HMw.out (back_bulk sw true L ver s HFE.out HTE.out HLE.out (by have := HVER.out; unfold I64; omega) HSZ.out.2)).mono ?_
          rintro e w26 ⟨hb, hC⟩
          have ok := back_ok sw true L ver s HFE.out HLE.out HVER.out HSZ.out
          rcases hC with ⟨-, RA, rcap, he, hE⟩ | ⟨hbad, -⟩
          rotate_left
          · rw [ok.1] at hbad; cases hbad
          rw [ok.2.1, ok.2.2.1, ok.2.2.2] at he
          rw [ok.2.2.2] at hE
          subst he
          have HRE := Lib.hid hE
          clear hE ok
          replace HES := Lib.hid (ES.same HES.out (below_same hb (fun b z => by have := HQ.out; omega)) (fun b z => z))
          replace HVS := Lib.hid (VS.on HVS.out (fun b z => by have := HQ.out; omega) hb)
          replace HBw := Lib.hid (HBw.out.trans (hb.mono (by have := HQ.out; have := HK1.out; omega)))
          replace HQ := Lib.hid (Nat.le_trans HQ.out hb.size)
          clear hb HMw
          go_wp2_with fail
          refine (SameEdits_true RA WA rcap wcap _ _ L w26 HRE.out HES.out (by have := HLE.out; omega)).mono ?_
          rintro e w27 ⟨rfl, nq, rfl⟩
          have hb := below_drewN (Below.refl w26.heap.size w26) nq
          replace HBw := Lib.hid (HBw.out.trans (hb.mono (by have := HQ.out; have := HK1.out; omega)))
          replace HQ : Hid (K0 ≤ (w26.drewN nq).heap.size) := Lib.hid (Nat.le_trans HQ.out hb.size)
          clear hb
          go_wp2_with fail
          refine (awake_any _ (HML.out.on HBw.out)).mono ?_
          rintro e w28 ⟨rfl, hb⟩
          replace HBw := Lib.hid (HBw.out.trans (hb.mono (by have := HQ.out; have := HK1.out; omega)))
          clear hb
          go_wp2
          go_ret
          exact ⟨rfl, HBw.out⟩
        · skip
          rw [hsw] at hd
          have hd2 : (qz == 1) = false := hd
          clear HDOC HX15 HHW
          have y0 := HX16.out.c 0 rfl
          have y1 := HX16.out.c 1 rfl
          have y2 := HX16.out.c 2 rfl
          have y3 := HX16.out.c 3 rfl
          have y4 := HX16.out.c 4 rfl
          have HMw := Lib.hid (HML.out.on HBw.out)
          go_wp2_with fail
          clear y0 y1 y2 y3 y4 hd hd2
          refine (Change_any _ wi _ _ HBACK.out (fun b h => h) HMw.out (back_bulk sw false L ver s HFE.out HTE.out HLE.out (by have := HVER.out; unfold I64; omega) HSZ.out.2)).mono ?_
          rintro e w26 ⟨hb, hC⟩
          have ok := back_ok sw false L ver s HFE.out HLE.out HVER.out HSZ.out
          rcases hC with ⟨-, RA, rcap, he, hE⟩ | ⟨hbad, -⟩
          rotate_left
          · rw [ok.1] at hbad; cases hbad
          rw [ok.2.1, ok.2.2.1, ok.2.2.2] at he
          rw [ok.2.2.2] at hE
          subst he
          have HRE := Lib.hid hE
          clear hE ok
          replace HES := Lib.hid (ES.same HES.out (below_same hb (fun b z => by have := HQ.out; omega)) (fun b z => z))
          replace HVS := Lib.hid (VS.on HVS.out (fun b z => by have := HQ.out; omega) hb)
          replace HBw := Lib.hid (HBw.out.trans (hb.mono (by have := HQ.out; have := HK1.out; omega)))
          replace HQ := Lib.hid (Nat.le_trans HQ.out hb.size)
          clear hb HMw
          go_wp2_with fail
          refine (SameEdits_true RA WA rcap wcap _ _ L w26 HRE.out HES.out (by have := HLE.out; omega)).mono ?_
          rintro e w27 ⟨rfl, nq, rfl⟩
          have hb := below_drewN (Below.refl w26.heap.size w26) nq
          replace HBw := Lib.hid (HBw.out.trans (hb.mono (by have := HQ.out; have := HK1.out; omega)))
          replace HQ : Hid (K0 ≤ (w26.drewN nq).heap.size) := Lib.hid (Nat.le_trans HQ.out hb.size)
          clear hb
          go_wp2_with fail
          refine (awake_any _ (HML.out.on HBw.out)).mono ?_
          rintro e w28 ⟨rfl, hb⟩
          replace HBw := Lib.hid (HBw.out.trans (hb.mono (by have := HQ.out; have := HK1.out; omega)))
          clear hb
          go_wp2
          go_ret
          exact ⟨rfl, HBw.out⟩
      · have hd0 : decide ((N : Int) < (n : Int)) = false := by simp; omega
        have hd1 : decide (N < n) = false := by simp; omega
        clear hpn hlt
        go_wp2_with fail
        have hb := made_end (w := wr) (.cells #[.string ⟨#[118, 101, 114, 115, 105, 111, 110]⟩, .string ⟨#[117, 114, 105]⟩, .string ⟨#[120]⟩] 9)
        have HN22 : Hid (BK (wr.alloc (.cells #[.string ⟨#[118, 101, 114, 115, 105, 111, 110]⟩, .string ⟨#[117, 114, 105]⟩, .string ⟨#[120]⟩] 9)) wr.heap.size 9 #[.string ⟨#[118, 101, 114, 115, 105, 111, 110]⟩, .string ⟨#[117, 114, 105]⟩, .string ⟨#[120]⟩]) := Lib.hid (BK.new wr _ _)
        have HGgn : Hid (K0 ≤ wr.heap.size) := Lib.hid HQ.out
        replace HES := Lib.hid (ES.same HES.out (below_same hb (fun b z => by have := HQ.out; omega)) (fun b z => z))
        replace HVS := Lib.hid (VS.on HVS.out (fun b z => by have := HQ.out; omega) hb)
        replace HHW := Lib.hid (HHW.out.on hb)
        replace HBw := Lib.hid (HBw.out.trans (hb.mono (by have := HQ.out; have := HK1.out; omega)))
        replace HQ := Lib.hid (Nat.le_trans HQ.out hb.size)
        clear hb
        generalize (wr.alloc (.cells #[.string ⟨#[118, 101, 114, 115, 105, 111, 110]⟩, .string ⟨#[117, 114, 105]⟩, .string ⟨#[120]⟩] 9)) = wa at *
        generalize wr.heap.size = gn at *
        refine (refNumber_all ver wa (by have := HVER.out; omega)).mono ?_
        rintro e wb ⟨rfl, hb⟩
        replace HES := Lib.hid (ES.same HES.out (below_same hb (fun b z => by have := HQ.out; omega)) (fun b z => z))
        replace HVS := Lib.hid (VS.on HVS.out (fun b z => by have := HQ.out; omega) hb)
        replace HHW := Lib.hid (HHW.out.on hb)
        replace HBw := Lib.hid (HBw.out.trans (hb.mono (by have := HQ.out; have := HK1.out; omega)))
        replace HN22 := Lib.hid (HN22.out.on hb)
        replace HQ := Lib.hid (Nat.le_trans HQ.out hb.size)
        clear hb
        go_wp2_with fail
        refine (mText_any s wb).mono ?_
        rintro e wc ⟨rfl, hb⟩
        replace HES := Lib.hid (ES.same HES.out (below_same hb (fun b z => by have := HQ.out; omega)) (fun b z => z))
        replace HVS := Lib.hid (VS.on HVS.out (fun b z => by have := HQ.out; omega) hb)
        replace HHW := Lib.hid (HHW.out.on hb)
        replace HBw := Lib.hid (HBw.out.trans (hb.mono (by have := HQ.out; have := HK1.out; omega)))
        replace HN22 := Lib.hid (HN22.out.on hb)
        replace HQ := Lib.hid (Nat.le_trans HQ.out hb.size)
        clear hb
        go_wp2_with fail
        refine (mText_any _ wc).mono ?_
        rintro e wd ⟨rfl, hb⟩
        replace HES := Lib.hid (ES.same HES.out (below_same hb (fun b z => by have := HQ.out; omega)) (fun b z => z))
        replace HVS := Lib.hid (VS.on HVS.out (fun b z => by have := HQ.out; omega) hb)
        replace HHW := Lib.hid (HHW.out.on hb)
        replace HBw := Lib.hid (HBw.out.trans (hb.mono (by have := HQ.out; have := HK1.out; omega)))
        replace HN22 := Lib.hid (HN22.out.on hb)
        replace HQ := Lib.hid (Nat.le_trans HQ.out hb.size)
        clear hb
        go_wp2_with fail
        have hb := made_end (w := wd) (.cells #[.int .i64 2, .bool false, .string (bs (numS ver)), .slice none 0 0, .slice none 0 0, .int .i64 3, .bool false, .string s, .slice none 0 0, .slice none 0 0, .int .i64 3, .bool false, .string ⟨#[122]⟩, .slice none 0 0, .slice none 0 0] 30)
        have HV22 : Hid (BK (wd.alloc (.cells #[.int .i64 2, .bool false, .string (bs (numS ver)), .slice none 0 0, .slice none 0 0, .int .i64 3, .bool false, .string s, .slice none 0 0, .slice none 0 0, .int .i64 3, .bool false, .string ⟨#[122]⟩, .slice none 0 0, .slice none 0 0] 30)) wd.heap.size 30 #[.int .i64 2, .bool false, .string (bs (numS ver)), .slice none 0 0, .slice none 0 0, .int .i64 3, .bool false, .string s, .slice none 0 0, .slice none 0 0, .int .i64 3, .bool false, .string ⟨#[122]⟩, .slice none 0 0, .slice none 0 0]) := Lib.hid (BK.new wd _ _)
        have HGgv : Hid (K0 ≤ wd.heap.size) := Lib.hid HQ.out
        replace HES := Lib.hid (ES.same HES.out (below_same hb (fun b z => by have := HQ.out; omega)) (fun b z => z))
        replace HVS := Lib.hid (VS.on HVS.out (fun b z => by have := HQ.out; omega) hb)
        replace HHW := Lib.hid (HHW.out.on hb)
        replace HBw := Lib.hid (HBw.out.trans (hb.mono (by have := HQ.out; have := HK1.out; omega)))
        replace HN22 := Lib.hid (HN22.out.on hb)
        replace HQ := Lib.hid (Nat.le_trans HQ.out hb.size)
        clear hb
        generalize (wd.alloc (.cells #[.int .i64 2, .bool false, .string (bs (numS ver)), .slice none 0 0, .slice none 0 0, .int .i64 3, .bool false, .string s, .slice none 0 0, .slice none 0 0, .int .i64 3, .bool false, .string ⟨#[122]⟩, .slice none 0 0, .slice none 0 0] 30)) = we at *
        generalize wd.heap.size = gv at *
        refine (mObject_any _ _ _ _ _ _ we).mono ?_
        rintro e wf ⟨rfl, hb⟩
        replace HES := Lib.hid (ES.same HES.out (below_same hb (fun b z => by have := HQ.out; omega)) (fun b z => z))
        replace HVS := Lib.hid (VS.on HVS.out (fun b z => by have := HQ.out; omega) hb)
        replace HHW := Lib.hid (HHW.out.on hb)
        replace HBw := Lib.hid (HBw.out.trans (hb.mono (by have := HQ.out; have := HK1.out; omega)))
        replace HN22 := Lib.hid (HN22.out.on hb)
        replace HV22 := Lib.hid (HV22.out.on hb)
        replace HQ := Lib.hid (Nat.le_trans HQ.out hb.size)
        clear hb
        go_upto_region 23 with (fail)
        have hb := made_end (w := wf) (.cells #[.int .i64 5, .bool false, .string ⟨#[]⟩, .slice (some ⟨gv, 0, none⟩) 3 3, .slice (some ⟨gn, 0, none⟩) 3 3] 30)
        have HX15 : Hid (BK (wf.alloc (.cells #[.int .i64 5, .bool false, .string ⟨#[]⟩, .slice (some ⟨gv, 0, none⟩) 3 3, .slice (some ⟨gn, 0, none⟩) 3 3] 30)) wf.heap.size 30 #[.int .i64 5, .bool false, .string ⟨#[]⟩, .slice (some ⟨gv, 0, none⟩) 3 3, .slice (some ⟨gn, 0, none⟩) 3 3]) := Lib.hid (BK.new wf _ _)
        have HGg15 : Hid (K0 ≤ wf.heap.size) := Lib.hid HQ.out
        replace HES := Lib.hid (ES.same HES.out (below_same hb (fun b z => by have := HQ.out; omega)) (fun b z => z))
        replace HVS := Lib.hid (VS.on HVS.out (fun b z => by have := HQ.out; omega) hb)
        replace HHW := Lib.hid (HHW.out.on hb)
        replace HBw := Lib.hid (HBw.out.trans (hb.mono (by have := HQ.out; have := HK1.out; omega)))
        replace HN22 := Lib.hid (HN22.out.on hb)
        replace HV22 := Lib.hid (HV22.out.on hb)
        replace HQ := Lib.hid (Nat.le_trans HQ.out hb.size)
        clear hb
        generalize (wf.alloc (.cells #[.int .i64 5, .bool false, .string ⟨#[]⟩, .slice (some ⟨gv, 0, none⟩) 3 3, .slice (some ⟨gn, 0, none⟩) 3 3] 30)) = wg at *
        generalize wf.heap.size = g15 at *
        have HDOC : Hid (VAL wg (fun b => b < wg.heap.size) (docT ver s) (.agg #[.int .i64 5, .bool false, .string ⟨#[]⟩, .slice (some ⟨gv, 0, none⟩) 3 3, .slice (some ⟨gn, 0, none⟩) 3 3])) := Lib.hid (VAL.shut (n := 3) (m := [VT.versionN, VT.uriN, xN]) (c := fun j => [nbT ver, txT s, txT ⟨#[122]⟩].getD j .leaf) (by decide) (ts_of_bk HN22.out [VT.versionN, VT.uriN, xN] rfl HN22.out.lt) (vs_of_bk HV22.out [nbT ver, txT s, txT ⟨#[122]⟩] (VR.cons (VAL.shut (by decide) (.inl rfl) (.inl rfl)) (VR.cons (VAL.shut (by decide) (.inl rfl) (.inl rfl)) (VR.cons (VAL.shut (by decide) (.inl rfl) (.inl rfl)) (VR.none _ _)))) HV22.out.lt))
        obtain ⟨KD, hKD⟩ : ∃ K, wg.heap.size = K := ⟨_, rfl⟩
        rw [hKD] at HDOC
        have HQD : Hid (KD ≤ wg.heap.size) := Lib.hid (Nat.le_of_eq hKD.symm)
        clear hKD
        go_wp2_with fail
        refine start_ (n := 8) (S := fun w' => True) (ds := []) #[false, false, false, false, false, false, false, false] (by kernel_rfl) rfl rfl trivial (fun hHeld => ?_)
        clear hHeld
        have hb : Below wg.heap.size wg wg.drew := (Below.refl _ _).drew
        replace HDOC := Lib.hid (HDOC.out.on (fun b z => by have := HQD.out; omega) hb)
        replace HQD := Lib.hid (Nat.le_trans HQD.out hb.size)
        replace HES := Lib.hid (ES.same HES.out (below_same hb (fun b z => by have := HQ.out; omega)) (fun b z => z))
        replace HVS := Lib.hid (VS.on HVS.out (fun b z => by have := HQ.out; omega) hb)
        replace HHW := Lib.hid (HHW.out.on hb)
        replace HBw := Lib.hid (HBw.out.trans (hb.mono (by have := HQ.out; have := HK1.out; omega)))
        replace HX15 := Lib.hid (HX15.out.on hb)
        replace HQ := Lib.hid (Nat.le_trans HQ.out hb.size)
        
        clear hb
        generalize wg.drew = c23 at *
        refine inv_ (B := [0, 0, 2, 0, 14, 31, 0, 127]) [0, 1, 2, 3, 4, 5, 6, 7] (ToldI _ (tl_bk23 (zNew 0) c23.heap.size EA N ecap gv gn g15) 7 c23 _) rfl (by kernel_rfl) (by kernel_rfl) (by kernel_rfl) told_begin ?_ (told_end (by kernel_rfl))
        refine steps_cons (told_step 0 (tl_bk23_ok (zNew 0) c23.heap.size EA N ecap gv gn g15) (tl_bk23_up (zNew 0) c23.heap.size EA N ecap gv gn g15) rfl (by kernel_rfl) ?_) ?_
        · intro bb V a w' ha hB hF hon
          refine ⟨_, rfl, rfl, fun K hK => ?_⟩
          refine value_ (w1 := w'.alloc (.cells #[.string ⟨#[99, 111, 110, 116, 101, 110, 116, 67, 104, 97, 110, 103, 101, 115]⟩, .string ⟨#[116, 101, 120, 116, 68, 111, 99, 117, 109, 101, 110, 116]⟩] 9)) (v := .slice (some ⟨w'.heap.size, 0, none⟩) 2 2) rfl rfl ?_ (hK _ _ ((Below.refl _ _).alloc (Nat.le_refl _) _) (BLKV_new _ _ _ _ hB.size))
          clear ha hF hon hK K
          go_simp
          all_goals first | rfl | (constructor <;> rfl)
        refine steps_cons (told_step 1 (tl_bk23_ok (zNew 0) c23.heap.size EA N ecap gv gn g15) (tl_bk23_up (zNew 0) c23.heap.size EA N ecap gv gn g15) rfl (by kernel_rfl) ?_) ?_
        · intro bb V a w' ha hB hF hon
          refine ⟨_, rfl, rfl, fun K hK => ?_⟩
          have e10 : a.tmps[10]? = some (.slice EA N ecap) := by rw [ha]; exact (putSel_off (by rfl)).trans rfl
          refine value_ (w1 := w') (v := .slice EA N ecap) rfl rfl ?_ (hK _ _ (Below.refl _ _) rfl)
          clear ha hF hon hK K
          go_simp
          all_goals first | rfl | (constructor <;> rfl)
        refine steps_cons (told_step 2 (tl_bk23_ok (zNew 0) c23.heap.size EA N ecap gv gn g15) (tl_bk23_up (zNew 0) c23.heap.size EA N ecap gv gn g15) rfl (by kernel_rfl) ?_) ?_
        · intro bb V a w' ha hB hF hon
          refine ⟨_, rfl, rfl, fun K hK => ?_⟩
          have e129 := told_get 1 (tl_bk23_ok (zNew 0) c23.heap.size EA N ecap gv gn g15) rfl ha (hon 1 (by kernel_rfl)) (by kernel_rfl)
          have F129 : V 1 = .slice EA N ecap := told_fact 1 hF rfl (hon 1 (by kernel_rfl))
          rw [F129] at e129
          refine goes_ Tryz.func38 (by kernel_rfl) rfl #[.slice EA N ecap] rfl rfl rfl (by simp only [List.map_toArray, List.map_cons, List.map_nil, Act.eval, Array.getD_eq_getD_getElem?, e129, Option.getD_some]) ?_
          refine (mList_any _ _ _ w').mono ?_
          rintro e w'' ⟨rfl, hb⟩
          exact ⟨_, rfl, hK _ w'' hb rfl⟩
        refine steps_cons (told_step 3 (tl_bk23_ok (zNew 0) c23.heap.size EA N ecap gv gn g15) (tl_bk23_up (zNew 0) c23.heap.size EA N ecap gv gn g15) rfl (by kernel_rfl) ?_) ?_
        · intro bb V a w' ha hB hF hon
          refine ⟨_, rfl, rfl, fun K hK => ?_⟩
          have e15 : a.tmps[15]? = some (.pointer (some ⟨g15, 0, none⟩)) := by rw [ha]; exact (putSel_off (by rfl)).trans rfl
          have hg := HX15.out.on hB
          have y0 := hg.c 0 rfl
          have y1 := hg.c 1 rfl
          have y2 := hg.c 2 rfl
          have y3 := hg.c 3 rfl
          have y4 := hg.c 4 rfl
          clear hg
          refine value_ (w1 := w') (v := .agg #[.int .i64 5, .bool false, .string ⟨#[]⟩, .slice (some ⟨gv, 0, none⟩) 3 3, .slice (some ⟨gn, 0, none⟩) 3 3]) rfl rfl ?_ (hK _ _ (Below.refl _ _) rfl)
          clear ha hF hon hK K
          go_simp
          all_goals first | rfl | (constructor <;> rfl)
        refine steps_cons (told_step 4 (tl_bk23_ok (zNew 0) c23.heap.size EA N ecap gv gn g15) (tl_bk23_up (zNew 0) c23.heap.size EA N ecap gv gn g15) rfl (by kernel_rfl) ?_) ?_
        · intro bb V a w' ha hB hF hon
          refine ⟨_, rfl, rfl, fun K hK => ?_⟩
          have e130 := told_get 2 (tl_bk23_ok (zNew 0) c23.heap.size EA N ecap gv gn g15) rfl ha (hon 2 (by kernel_rfl)) (by kernel_rfl)
          have F130 : V 2 = .agg #[.int .i64 4, .bool false, .string ⟨#[]⟩, .slice EA N ecap, .slice none 0 0] := told_fact 2 hF rfl (hon 2 (by kernel_rfl))
          rw [F130] at e130
          have e131 := told_get 3 (tl_bk23_ok (zNew 0) c23.heap.size EA N ecap gv gn g15) rfl ha (hon 3 (by kernel_rfl)) (by kernel_rfl)
          have F131 : V 3 = .agg #[.int .i64 5, .bool false, .string ⟨#[]⟩, .slice (some ⟨gv, 0, none⟩) 3 3, .slice (some ⟨gn, 0, none⟩) 3 3] := told_fact 3 hF rfl (hon 3 (by kernel_rfl))
          rw [F131] at e131
          refine value_ (w1 := w'.alloc (.cells #[.int .i64 4, .bool false, .string ⟨#[]⟩, .slice EA N ecap, .slice none 0 0, .int .i64 5, .bool false, .string ⟨#[]⟩, .slice (some ⟨gv, 0, none⟩) 3 3, .slice (some ⟨gn, 0, none⟩) 3 3] 30)) (v := .slice (some ⟨w'.heap.size, 0, none⟩) 2 2) rfl rfl ?_ (hK _ _ ((Below.refl _ _).alloc (Nat.le_refl _) _) (BLKV_new _ _ _ _ hB.size))
          clear ha hF hon hK K
          go_simp
          all_goals first | rfl | (constructor <;> rfl)
        refine steps_cons (told_step 5 (tl_bk23_ok (zNew 0) c23.heap.size EA N ecap gv gn g15) (tl_bk23_up (zNew 0) c23.heap.size EA N ecap gv gn g15) rfl (by kernel_rfl) ?_) ?_
        · intro bb V a w' ha hB hF hon
          refine ⟨_, rfl, rfl, fun K hK => ?_⟩
          have e128 := told_get 0 (tl_bk23_ok (zNew 0) c23.heap.size EA N ecap gv gn g15) rfl ha (hon 0 (by kernel_rfl)) (by kernel_rfl)
          have F128 := told_fact 0 hF rfl (hon 0 (by kernel_rfl))
          have e132 := told_get 4 (tl_bk23_ok (zNew 0) c23.heap.size EA N ecap gv gn g15) rfl ha (hon 4 (by kernel_rfl)) (by kernel_rfl)
          have F132 := told_fact 4 hF rfl (hon 4 (by kernel_rfl))
          refine goes_ Tryz.func32 (by kernel_rfl) rfl #[V 0, V 4] rfl rfl rfl (by simp only [List.map_toArray, List.map_cons, List.map_nil, Act.eval, Array.getD_eq_getD_getElem?, e128, e132, Option.getD_some]) ?_
          obtain ⟨q1, hq1, hq1c, hq1b⟩ := F128
          obtain ⟨q2, hq2, hq2c, hq2b⟩ := F132
          rw [hq1, hq2]
          refine (mObject_any _ _ _ _ _ _ w').mono ?_
          rintro e w'' ⟨rfl, hb⟩
          exact ⟨_, rfl, hK _ w'' hb ⟨q1, q2, rfl, hq1c, hq2c, hq1b.on hb, hq2b.on hb⟩⟩
        refine steps_cons (told_step 6 (tl_bk23_ok (zNew 0) c23.heap.size EA N ecap gv gn g15) (tl_bk23_up (zNew 0) c23.heap.size EA N ecap gv gn g15) rfl (by kernel_rfl) ?_) ?_
        · intro bb V a w' ha hB hF hon
          refine ⟨_, rfl, rfl, fun K hK => ?_⟩
          refine value_ (w1 := w'.alloc (.cells #[.int .i64 0, .bool false, .string ⟨#[]⟩, .slice none 0 0, .slice none 0 0] 30)) (v := .pointer (some ⟨w'.heap.size, 0, none⟩)) rfl rfl ?_ (hK _ _ ((Below.refl _ _).alloc (Nat.le_refl _) _) (BOXV_new _ _ _ hB.size))
          clear ha hF hon hK K
          go_simp
          all_goals first | rfl | (constructor <;> rfl)
        refine steps_cons (told_last ?_ ?_) steps_nil
        · intro e he; simp only [tl_bk23, List.mem_cons, List.mem_nil_iff, or_false] at he; rcases he with rfl | rfl | rfl | rfl | rfl | rfl | rfl <;> kernel_rfl
        intro V a w' ha hB hF
        refine ⟨_, rfl, rfl, fun K hK => ?_⟩
        have e133 := told_get 5 (tl_bk23_ok (zNew 0) c23.heap.size EA N ecap gv gn g15) rfl ha rfl (by kernel_rfl)
        have F133 := hF _ (List.mem_of_getElem? (i := 5) rfl)
        have e16 := told_get 6 (tl_bk23_ok (zNew 0) c23.heap.size EA N ecap gv gn g15) rfl ha rfl (by kernel_rfl)
        have F16 := hF _ (List.mem_of_getElem? (i := 6) rfl)
        obtain ⟨qn, ql, hv133, hqn, hql, bqn, bql⟩ := F133
        rw [hv133] at e133
        obtain ⟨g16, hv16, hgC, hbk⟩ := F16
        rw [hv16] at e16
        have y0 := hbk.c 0 rfl
        have f0 := hbk.fr 0
        have y1 := hbk.c 1 rfl
        have f1 := hbk.fr 1
        have y2 := hbk.c 2 rfl
        have f2 := hbk.fr 2
        have y3 := hbk.c 3 rfl
        have f3 := hbk.fr 3
        have y4 := hbk.c 4 rfl
        have f4 := hbk.fr 4
        refine skip_ (w1 := setAll g16 w' 0 [.int .i64 5, .bool false, .string ⟨#[]⟩, .slice (some ⟨ql, 0, none⟩) 2 2, .slice (some ⟨qn, 0, none⟩) 2 2]) rfl rfl ?_ (hK _ _ ?_)
        · clear ha hF hK K
          go_simp
          all_goals first | rfl | (constructor <;> rfl)
        clear hK K hF e133 e16 y0 f0 y1 f1 y2 f2 y3 f3 y4 f4
        have hnb := hbk.all [.int .i64 5, .bool false, .string ⟨#[]⟩, .slice (some ⟨ql, 0, none⟩) 2 2, .slice (some ⟨qn, 0, none⟩) 2 2] rfl
        have hbs := setAll_below g16 hgC [.int .i64 5, .bool false, .string ⟨#[]⟩, .slice (some ⟨ql, 0, none⟩) 2 2, .slice (some ⟨qn, 0, none⟩) 2 2] w' 0 hB
        have HX16 := Lib.hid hnb
        have h15 := HX15.out.lt
        have hd1' := hbk.ne bqn (by decide)
        have hd2' := hbk.ne bql (by simp)
        have HBN := Lib.hid ((setAll_same (S := fun b => b = qn) g16 [.int .i64 5, .bool false, .string ⟨#[]⟩, .slice (some ⟨ql, 0, none⟩) 2 2, .slice (some ⟨qn, 0, none⟩) 2 2] (fun b hb e => hd1' (by rw [← e, hb])) w' 0 qn rfl).trans bqn)
        have HBL := Lib.hid ((setAll_same (S := fun b => b = ql) g16 [.int .i64 5, .bool false, .string ⟨#[]⟩, .slice (some ⟨ql, 0, none⟩) 2 2, .slice (some ⟨qn, 0, none⟩) 2 2] (fun b hb e => hd2' (by rw [← e, hb])) w' 0 ql rfl).trans bql)
        have HG23 : Hid (g16 ≠ g15 ∧ K0 ≤ g16 ∧ KD ≤ g16) := Lib.hid ⟨by omega, Nat.le_trans HQ.out hgC, Nat.le_trans HQD.out hgC⟩
        replace HDOC := Lib.hid (HDOC.out.on (fun b z => by have := HQD.out; omega) hbs)
        replace HQD := Lib.hid (Nat.le_trans HQD.out hbs.size)
        replace HES := Lib.hid (ES.same HES.out (below_same hbs (fun b z => by have := HQ.out; omega)) (fun b z => z))
        replace HVS := Lib.hid (VS.on HVS.out (fun b z => by have := HQ.out; omega) hbs)
        replace HHW := Lib.hid (HHW.out.on hbs)
        replace HBw := Lib.hid (HBw.out.trans (hbs.mono (by have := HQ.out; have := HK1.out; omega)))
        replace HX15 := Lib.hid (HX15.out.on hbs)
        replace HQ := Lib.hid (Nat.le_trans HQ.out hbs.size)
        clear hnb hbs hgC hqn hql bqn bql h15 hd1' hd2'
        generalize setAll g16 w' 0 [.int .i64 5, .bool false, .string ⟨#[]⟩, .slice (some ⟨ql, 0, none⟩) 2 2, .slice (some ⟨qn, 0, none⟩) 2 2] = wh at *
        rw [ha]
        clear ha hB hbk
        simp only [tl_bk23, Tolds.put, List.map_cons, List.map_nil, putSel, if_true, Act.put, List.setIfInBounds_toArray, List.set_cons_zero, List.set_cons_succ, hv16, hv133]
        clear hv16 hv133
        generalize V 0 = u0
        generalize V 1 = u1
        generalize V 2 = u2
        generalize V 3 = u3
        generalize V 4 = u4
        try clear V
        replace HBN : Hid (BK wh qn 9 #[.string ⟨#[99, 111, 110, 116, 101, 110, 116, 67, 104, 97, 110, 103, 101, 115]⟩, .string ⟨#[116, 101, 120, 116, 68, 111, 99, 117, 109, 101, 110, 116]⟩]) := HBN
        replace HBL : Hid (BK wh ql 30 #[.int .i64 4, .bool false, .string ⟨#[]⟩, .slice EA N ecap, .slice none 0 0, .int .i64 5, .bool false, .string ⟨#[]⟩, .slice (some ⟨gv, 0, none⟩) 3 3, .slice (some ⟨gn, 0, none⟩) 3 3]) := HBL
        replace HX16 : Hid (BK wh g16 30 #[.int .i64 5, .bool false, .string ⟨#[]⟩, .slice (some ⟨ql, 0, none⟩) 2 2, .slice (some ⟨qn, 0, none⟩) 2 2]) := HX16
        have HBACK : Hid (VAL wh (fun b => b < wh.heap.size) (backT false (L.map (edT sw)) (docT ver s)) (.agg #[.int .i64 5, .bool false, .string ⟨#[]⟩, .slice (some ⟨ql, 0, none⟩) 2 2, .slice (some ⟨qn, 0, none⟩) 2 2])) := Lib.hid (by
          have hls : VAL wh (fun b => b < wh.heap.size) (lsT (L.map (edT sw))) (.agg #[.int .i64 4, .bool false, .string ⟨#[]⟩, .slice EA N ecap, .slice none 0 0]) := (by
            have h := HVS.out
            rw [← HNE.out] at h ⊢
            exact VAL.shut (by decide) (.inl rfl) (h.mono (fun b z => by have := HQ.out; omega)))
          exact VAL.shut (n := 2) (m := [VT.changesN, VT.tdN]) (c := fun j => [lsT (L.map (edT sw)), docT ver s].getD j .leaf) (by decide) (ts_of_bk HBN.out [VT.changesN, VT.tdN] rfl HBN.out.lt) (vs_of_bk HBL.out [lsT (L.map (edT sw)), docT ver s] (VR.cons hls (VR.cons (HDOC.out.mono (fun b z => by have := HQD.out; omega)) (VR.none _ _))) HBL.out.lt))
        clear HBN HBL
        have k2 := HHW.out.c 2 rfl
        go_wp2_with fail
        clear k2
        obtain ⟨sw2, HSW2⟩ : ∃ sw2 : Bool, Hid (decide (h2 % 2 = 1) = sw2) := ⟨_, Lib.hid rfl⟩
        refine (Bring2_any h2 2 wh Q2.out (by omega)).mono ?_
        rintro e wi ⟨rfl, hb⟩
        replace HBACK := Lib.hid ((HBACK.out.on (fun b h => h) hb).mono (fun b h => Nat.lt_of_lt_of_le h hb.size))
        replace HDOC := Lib.hid (HDOC.out.on (fun b z => by have := HQD.out; omega) hb)
        replace HQD := Lib.hid (Nat.le_trans HQD.out hb.size)
        replace HES := Lib.hid (ES.same HES.out (below_same hb (fun b z => by have := HQ.out; omega)) (fun b z => z))
        replace HVS := Lib.hid (VS.on HVS.out (fun b z => by have := HQ.out; omega) hb)
        replace HHW := Lib.hid (HHW.out.on hb)
        replace HBw := Lib.hid (HBw.out.trans (hb.mono (by have := HQ.out; have := HK1.out; omega)))
        replace HX15 := Lib.hid (HX15.out.on hb)
        replace HX16 := Lib.hid (HX16.out.on hb)
        replace HQ := Lib.hid (Nat.le_trans HQ.out hb.size)
        clear hb
        have hd := HSW2.out
        generalize h2 % 2 = qz at hd ⊢
        rcases Bool.eq_false_or_eq_true sw2 with hsw | hsw
        · skip
          rw [hsw] at hd
          obtain rfl : qz = 1 := of_decide_eq_true hd
          clear hd HBACK
          go_wp2_with fail
          refine start_ (n := 9) (S := fun w' => True) (ds := []) #[false, false, false, false, false, false, false, false, false] (by kernel_rfl) rfl rfl trivial (fun hHeld => ?_)
          clear hHeld
          have hb : Below wi.heap.size wi wi.drew := (Below.refl _ _).drew
          replace HDOC := Lib.hid (HDOC.out.on (fun b z => by have := HQD.out; omega) hb)
          replace HQD := Lib.hid (Nat.le_trans HQD.out hb.size)
          replace HES := Lib.hid (ES.same HES.out (below_same hb (fun b z => by have := HQ.out; omega)) (fun b z => z))
          replace HVS := Lib.hid (VS.on HVS.out (fun b z => by have := HQ.out; omega) hb)
          replace HHW := Lib.hid (HHW.out.on hb)
          replace HBw := Lib.hid (HBw.out.trans (hb.mono (by have := HQ.out; have := HK1.out; omega)))
          replace HX15 := Lib.hid (HX15.out.on hb)
          replace HX16 := Lib.hid (HX16.out.on hb)
          replace HQ := Lib.hid (Nat.le_trans HQ.out hb.size)
          clear hb
          generalize wi.drew = c25 at *
          refine inv_ (B := [0, 0, 2, 0, 0, 22, 62, 127, 255]) [0, 1, 2, 3, 4, 5, 6, 7, 8] (ToldI _ (tl_bk25 (zNew 0) c25.heap.size EA N ecap gv gn g15) 8 c25 _) rfl (by kernel_rfl) (by kernel_rfl) (by kernel_rfl) told_begin ?_ (told_end (by kernel_rfl))
          refine steps_cons (told_step 0 (tl_bk25_ok (zNew 0) c25.heap.size EA N ecap gv gn g15) (tl_bk25_up (zNew 0) c25.heap.size EA N ecap gv gn g15) rfl (by kernel_rfl) ?_) ?_
          · intro bb V a w' ha hB hF hon
            refine ⟨_, rfl, rfl, fun K hK => ?_⟩
            refine value_ (w1 := w'.alloc (.cells #[.string ⟨#[99, 111, 110, 116, 101, 110, 116, 67, 104, 97, 110, 103, 101, 115]⟩, .string ⟨#[120]⟩, .string ⟨#[116, 101, 120, 116, 68, 111, 99, 117, 109, 101, 110, 116]⟩, .string ⟨#[99, 111, 110, 116, 101, 110, 116, 67, 104, 97, 110, 103, 101, 115]⟩] 9)) (v := .slice (some ⟨w'.heap.size, 0, none⟩) 4 4) rfl rfl ?_ (hK _ _ ((Below.refl _ _).alloc (Nat.le_refl _) _) (BLKV_new _ _ _ _ hB.size))
            clear ha hF hon hK K
            go_simp
            all_goals first | rfl | (constructor <;> rfl)
          refine steps_cons (told_step 1 (tl_bk25_ok (zNew 0) c25.heap.size EA N ecap gv gn g15) (tl_bk25_up (zNew 0) c25.heap.size EA N ecap gv gn g15) rfl (by kernel_rfl) ?_) ?_
          · intro bb V a w' ha hB hF hon
            refine ⟨_, rfl, rfl, fun K hK => ?_⟩
            refine goes_ Tryz.func33 (by kernel_rfl) rfl #[.string ⟨#[111, 108, 100]⟩] rfl rfl rfl (by simp only [List.map_toArray, List.map_cons, List.map_nil, Act.eval, Array.getD_eq_getD_getElem?, Option.getD_some]) ?_
            refine (mText_any ⟨#[111, 108, 100]⟩ w').mono ?_
            rintro e w'' ⟨rfl, hb⟩
            exact ⟨_, rfl, hK _ w'' hb rfl⟩
          refine steps_cons (told_step 2 (tl_bk25_ok (zNew 0) c25.heap.size EA N ecap gv gn g15) (tl_bk25_up (zNew 0) c25.heap.size EA N ecap gv gn g15) rfl (by kernel_rfl) ?_) ?_
          · intro bb V a w' ha hB hF hon
            refine ⟨_, rfl, rfl, fun K hK => ?_⟩
            refine goes_ Tryz.func38 (by kernel_rfl) rfl #[.slice none 0 0] rfl rfl rfl (by simp only [List.map_toArray, List.map_cons, List.map_nil, Act.eval, Array.getD_eq_getD_getElem?, Option.getD_some]) ?_
            refine (mList_any _ _ _ w').mono ?_
            rintro e w'' ⟨rfl, hb⟩
            exact ⟨_, rfl, hK _ w'' hb rfl⟩
          refine steps_cons (told_step 3 (tl_bk25_ok (zNew 0) c25.heap.size EA N ecap gv gn g15) (tl_bk25_up (zNew 0) c25.heap.size EA N ecap gv gn g15) rfl (by kernel_rfl) ?_) ?_
          · intro bb V a w' ha hB hF hon
            refine ⟨_, rfl, rfl, fun K hK => ?_⟩
            have e15 : a.tmps[15]? = some (.pointer (some ⟨g15, 0, none⟩)) := by rw [ha]; exact (putSel_off (by rfl)).trans rfl
            have hg := HX15.out.on hB
            have y0 := hg.c 0 rfl
            have y1 := hg.c 1 rfl
            have y2 := hg.c 2 rfl
            have y3 := hg.c 3 rfl
            have y4 := hg.c 4 rfl
            clear hg
            refine value_ (w1 := w') (v := .agg #[.int .i64 5, .bool false, .string ⟨#[]⟩, .slice (some ⟨gv, 0, none⟩) 3 3, .slice (some ⟨gn, 0, none⟩) 3 3]) rfl rfl ?_ (hK _ _ (Below.refl _ _) rfl)
            clear ha hF hon hK K
            go_simp
            all_goals first | rfl | (constructor <;> rfl)
          refine steps_cons (told_step 4 (tl_bk25_ok (zNew 0) c25.heap.size EA N ecap gv gn g15) (tl_bk25_up (zNew 0) c25.heap.size EA N ecap gv gn g15) rfl (by kernel_rfl) ?_) ?_
          · intro bb V a w' ha hB hF hon
            refine ⟨_, rfl, rfl, fun K hK => ?_⟩
            have e10 : a.tmps[10]? = some (.slice EA N ecap) := by rw [ha]; exact (putSel_off (by rfl)).trans rfl
            refine value_ (w1 := w') (v := .slice EA N ecap) rfl rfl ?_ (hK _ _ (Below.refl _ _) rfl)
            clear ha hF hon hK K
            go_simp
            all_goals first | rfl | (constructor <;> rfl)
          refine steps_cons (told_step 5 (tl_bk25_ok (zNew 0) c25.heap.size EA N ecap gv gn g15) (tl_bk25_up (zNew 0) c25.heap.size EA N ecap gv gn g15) rfl (by kernel_rfl) ?_) ?_
          · intro bb V a w' ha hB hF hon
            refine ⟨_, rfl, rfl, fun K hK => ?_⟩
            have e142 := told_get 4 (tl_bk25_ok (zNew 0) c25.heap.size EA N ecap gv gn g15) rfl ha (hon 4 (by kernel_rfl)) (by kernel_rfl)
            have F142 : V 4 = .slice EA N ecap := told_fact 4 hF rfl (hon 4 (by kernel_rfl))
            rw [F142] at e142
            refine goes_ Tryz.func38 (by kernel_rfl) rfl #[.slice EA N ecap] rfl rfl rfl (by simp only [List.map_toArray, List.map_cons, List.map_nil, Act.eval, Array.getD_eq_getD_getElem?, e142, Option.getD_some]) ?_
            refine (mList_any _ _ _ w').mono ?_
            rintro e w'' ⟨rfl, hb⟩
            exact ⟨_, rfl, hK _ w'' hb rfl⟩
          refine steps_cons (told_step 6 (tl_bk25_ok (zNew 0) c25.heap.size EA N ecap gv gn g15) (tl_bk25_up (zNew 0) c25.heap.size EA N ecap gv gn g15) rfl (by kernel_rfl) ?_) ?_
          · intro bb V a w' ha hB hF hon
            refine ⟨_, rfl, rfl, fun K hK => ?_⟩
            have e139 := told_get 1 (tl_bk25_ok (zNew 0) c25.heap.size EA N ecap gv gn g15) rfl ha (hon 1 (by kernel_rfl)) (by kernel_rfl)
            have F139 : V 1 = .agg #[.int .i64 3, .bool false, .string ⟨#[111, 108, 100]⟩, .slice none 0 0, .slice none 0 0] := told_fact 1 hF rfl (hon 1 (by kernel_rfl))
            rw [F139] at e139
            have e140 := told_get 2 (tl_bk25_ok (zNew 0) c25.heap.size EA N ecap gv gn g15) rfl ha (hon 2 (by kernel_rfl)) (by kernel_rfl)
            have F140 : V 2 = .agg #[.int .i64 4, .bool false, .string ⟨#[]⟩, .slice none 0 0, .slice none 0 0] := told_fact 2 hF rfl (hon 2 (by kernel_rfl))
            rw [F140] at e140
            have e141 := told_get 3 (tl_bk25_ok (zNew 0) c25.heap.size EA N ecap gv gn g15) rfl ha (hon 3 (by kernel_rfl)) (by kernel_rfl)
            have F141 : V 3 = .agg #[.int .i64 5, .bool false, .string ⟨#[]⟩, .slice (some ⟨gv, 0, none⟩) 3 3, .slice (some ⟨gn, 0, none⟩) 3 3] := told_fact 3 hF rfl (hon 3 (by kernel_rfl))
            rw [F141] at e141
            have e143 := told_get 5 (tl_bk25_ok (zNew 0) c25.heap.size EA N ecap gv gn g15) rfl ha (hon 5 (by kernel_rfl)) (by kernel_rfl)
            have F143 : V 5 = .agg #[.int .i64 4, .bool false, .string ⟨#[]⟩, .slice EA N ecap, .slice none 0 0] := told_fact 5 hF rfl (hon 5 (by kernel_rfl))
            rw [F143] at e143
            refine value_ (w1 := w'.alloc (.cells #[.int .i64 3, .bool false, .string ⟨#[111, 108, 100]⟩, .slice none 0 0, .slice none 0 0, .int .i64 4, .bool false, .string ⟨#[]⟩, .slice none 0 0, .slice none 0 0, .int .i64 5, .bool false, .string ⟨#[]⟩, .slice (some ⟨gv, 0, none⟩) 3 3, .slice (some ⟨gn, 0, none⟩) 3 3, .int .i64 4, .bool false, .string ⟨#[]⟩, .slice EA N ecap, .slice none 0 0] 30)) (v := .slice (some ⟨w'.heap.size, 0, none⟩) 4 4) rfl rfl ?_ (hK _ _ ((Below.refl _ _).alloc (Nat.le_refl _) _) (BLKV_new _ _ _ _ hB.size))
            clear ha hF hon hK K
            go_simp
            all_goals first | rfl | (constructor <;> rfl)
          refine steps_cons (told_step 7 (tl_bk25_ok (zNew 0) c25.heap.size EA N ecap gv gn g15) (tl_bk25_up (zNew 0) c25.heap.size EA N ecap gv gn g15) rfl (by kernel_rfl) ?_) ?_
          · intro bb V a w' ha hB hF hon
            refine ⟨_, rfl, rfl, fun K hK => ?_⟩
            have e138 := told_get 0 (tl_bk25_ok (zNew 0) c25.heap.size EA N ecap gv gn g15) rfl ha (hon 0 (by kernel_rfl)) (by kernel_rfl)
            have F138 := told_fact 0 hF rfl (hon 0 (by kernel_rfl))
            have e144 := told_get 6 (tl_bk25_ok (zNew 0) c25.heap.size EA N ecap gv gn g15) rfl ha (hon 6 (by kernel_rfl)) (by kernel_rfl)
            have F144 := told_fact 6 hF rfl (hon 6 (by kernel_rfl))
            refine goes_ Tryz.func32 (by kernel_rfl) rfl #[V 0, V 6] rfl rfl rfl (by simp only [List.map_toArray, List.map_cons, List.map_nil, Act.eval, Array.getD_eq_getD_getElem?, e138, e144, Option.getD_some]) ?_
            obtain ⟨q1, hq1, hq1c, hq1b⟩ := F138
            obtain ⟨q2, hq2, hq2c, hq2b⟩ := F144
            rw [hq1, hq2]
            refine (mObject_any _ _ _ _ _ _ w').mono ?_
            rintro e w'' ⟨rfl, hb⟩
            exact ⟨_, rfl, hK _ w'' hb ⟨q1, q2, rfl, hq1c, hq2c, hq1b.on hb, hq2b.on hb⟩⟩
          refine steps_cons (told_last ?_ ?_) steps_nil
          · intro e he; simp only [tl_bk25, List.mem_cons, List.mem_nil_iff, or_false] at he; rcases he with rfl | rfl | rfl | rfl | rfl | rfl | rfl | rfl <;> kernel_rfl
          intro V a w' ha hB hF
          refine ⟨_, rfl, rfl, fun K hK => ?_⟩
          have e145 := told_get 7 (tl_bk25_ok (zNew 0) c25.heap.size EA N ecap gv gn g15) rfl ha rfl (by kernel_rfl)
          have F145 := hF _ (List.mem_of_getElem? (i := 7) rfl)
          obtain ⟨rn, rl, hv145, hrn, hrl, brn, brl⟩ := F145
          rw [hv145] at e145
          have e16 : a.tmps[16]? = some (.pointer (some ⟨g16, 0, none⟩)) := by rw [ha]; exact (putSel_off (by rfl)).trans rfl
          have hg := HX16.out.on hB
          have y0 := hg.c 0 rfl
          have f0 := hg.fr 0
          have y1 := hg.c 1 rfl
          have f1 := hg.fr 1
          have y2 := hg.c 2 rfl
          have f2 := hg.fr 2
          have y3 := hg.c 3 rfl
          have f3 := hg.fr 3
          have y4 := hg.c 4 rfl
          have f4 := hg.fr 4
          refine skip_ (w1 := (setAll g16 w' 0 [.int .i64 5, .bool false, .string ⟨#[]⟩, .slice (some ⟨rl, 0, none⟩) 4 4, .slice (some ⟨rn, 0, none⟩) 4 4])) rfl rfl ?_ (hK _ _ ?_)
          · clear ha hF hK K
            go_simp
            all_goals first | rfl | (constructor <;> rfl)
          clear hK K hF e145 e16 y0 f0 y1 f1 y2 f2 y3 f3 y4 f4
          have hnb := hg.all [.int .i64 5, .bool false, .string ⟨#[]⟩, .slice (some ⟨rl, 0, none⟩) 4 4, .slice (some ⟨rn, 0, none⟩) 4 4] rfl
          have h16 := HX16.out.lt
          have hszA := setAll_size g16 [.int .i64 5, .bool false, .string ⟨#[]⟩, .slice (some ⟨rl, 0, none⟩) 4 4, .slice (some ⟨rn, 0, none⟩) 4 4] w' 0
          have SA := fun (S : Nat → Prop) (hS : ∀ b, S b → b ≠ g16) => setAll_same (S := S) g16 [.int .i64 5, .bool false, .string ⟨#[]⟩, .slice (some ⟨rl, 0, none⟩) 4 4, .slice (some ⟨rn, 0, none⟩) 4 4] hS w' 0
          have HBN := Lib.hid ((SA (fun b => b = rn) (fun b hb => by omega) rn rfl).trans brn)
          have HBL := Lib.hid ((SA (fun b => b = rl) (fun b hb => by omega) rl rfl).trans brl)
          replace HBN : Hid (BK (setAll g16 w' 0 [.int .i64 5, .bool false, .string ⟨#[]⟩, .slice (some ⟨rl, 0, none⟩) 4 4, .slice (some ⟨rn, 0, none⟩) 4 4]) rn 9 #[.string ⟨#[99, 111, 110, 116, 101, 110, 116, 67, 104, 97, 110, 103, 101, 115]⟩, .string ⟨#[120]⟩, .string ⟨#[116, 101, 120, 116, 68, 111, 99, 117, 109, 101, 110, 116]⟩, .string ⟨#[99, 111, 110, 116, 101, 110, 116, 67, 104, 97, 110, 103, 101, 115]⟩]) := HBN
          replace HBL : Hid (BK (setAll g16 w' 0 [.int .i64 5, .bool false, .string ⟨#[]⟩, .slice (some ⟨rl, 0, none⟩) 4 4, .slice (some ⟨rn, 0, none⟩) 4 4]) rl 30 #[.int .i64 3, .bool false, .string ⟨#[111, 108, 100]⟩, .slice none 0 0, .slice none 0 0, .int .i64 4, .bool false, .string ⟨#[]⟩, .slice none 0 0, .slice none 0 0, .int .i64 5, .bool false, .string ⟨#[]⟩, .slice (some ⟨gv, 0, none⟩) 3 3, .slice (some ⟨gn, 0, none⟩) 3 3, .int .i64 4, .bool false, .string ⟨#[]⟩, .slice EA N ecap, .slice none 0 0]) := HBL
          have hbs := setAll_below g16 (B := w.heap.size) (by have := HG23.out; have := HK1.out; omega) [.int .i64 5, .bool false, .string ⟨#[]⟩, .slice (some ⟨rl, 0, none⟩) 4 4, .slice (some ⟨rn, 0, none⟩) 4 4] w' 0 (HBw.out.trans (hB.mono (by have := HQ.out; have := HK1.out; omega)))
          have hes := ES.same (S' := fun b => b < K0) (ES.same HES.out (below_same hB (fun b z => by have := HQ.out; omega)) (fun b z => z)) (SA (fun b => b < K0) (fun b hb => by have := HG23.out; omega)) (fun b z => z)
          have hvs := VS.same (VS.on HVS.out (fun b z => by have := HQ.out; omega) hB) (SA _ (fun b hb => by have := HG23.out; omega))
          have hdoc := VAL.same (SA (fun b => b < KD) (fun b hb => by have := HG23.out; omega)) (HDOC.out.on (fun b z => by have := HQD.out; omega) hB)
          have hsz : c25.heap.size ≤ (setAll g16 w' 0 [.int .i64 5, .bool false, .string ⟨#[]⟩, .slice (some ⟨rl, 0, none⟩) 4 4, .slice (some ⟨rn, 0, none⟩) 4 4]).heap.size := Nat.le_trans hB.size (Nat.le_of_eq hszA.symm)
          replace HES := Lib.hid hes
          replace HVS := Lib.hid hvs
          replace HBw := Lib.hid hbs
          replace HQ := Lib.hid (Nat.le_trans HQ.out hsz)
          replace HQD := Lib.hid (Nat.le_trans HQD.out hsz)
          replace HDOC := Lib.hid hdoc
          replace HX16 := Lib.hid hnb
          clear hes hvs hbs hsz hdoc hnb h16 hszA SA hg hrn hrl brn brl HX15 HHW
          generalize (setAll g16 w' 0 [.int .i64 5, .bool false, .string ⟨#[]⟩, .slice (some ⟨rl, 0, none⟩) 4 4, .slice (some ⟨rn, 0, none⟩) 4 4]) = wj at *
          rw [ha]
          clear ha hB
          simp only [tl_bk25, Tolds.put, List.map_cons, List.map_nil, putSel, if_true, Act.put, List.setIfInBounds_toArray, List.set_cons_zero, List.set_cons_succ, hv145]
          clear hv145
          generalize V 0 = u0
          generalize V 1 = u1
          generalize V 2 = u2
          generalize V 3 = u3
          generalize V 4 = u4
          generalize V 5 = u5
          generalize V 6 = u6
          try clear V
          replace HX16 : Hid (BK wj g16 30 #[.int .i64 5, .bool false, .string ⟨#[]⟩, .slice (some ⟨rl, 0, none⟩) 4 4, .slice (some ⟨rn, 0, none⟩) 4 4]) := HX16
          have HBACK : Hid (VAL wj (fun b => b < wj.heap.size) (backT true (L.map (edT sw)) (docT ver s)) (.agg #[.int .i64 5, .bool false, .string ⟨#[]⟩, .slice (some ⟨rl, 0, none⟩) 4 4, .slice (some ⟨rn, 0, none⟩) 4 4])) := Lib.hid (by
            have hls : VAL wj (fun b => b < wj.heap.size) (lsT (L.map (edT sw))) (.agg #[.int .i64 4, .bool false, .string ⟨#[]⟩, .slice EA N ecap, .slice none 0 0]) := (by
              have h := HVS.out
              rw [← HNE.out] at h ⊢
              exact VAL.shut (by decide) (.inl rfl) (h.mono (fun b z => by have := HQ.out; omega)))
            exact VAL.shut (n := 4) (m := [VT.changesN, xN, VT.tdN, VT.changesN]) (c := fun j => [txT ⟨#[111, 108, 100]⟩, lsT [], docT ver s, lsT (L.map (edT sw))].getD j .leaf) (by decide) (ts_of_bk HBN.out [VT.changesN, xN, VT.tdN, VT.changesN] rfl HBN.out.lt) (vs_of_bk HBL.out [txT ⟨#[111, 108, 100]⟩, lsT [], docT ver s, lsT (L.map (edT sw))] (VR.cons (VAL.shut (by decide) (.inl rfl) (.inl rfl)) (VR.cons (VAL.shut (by decide) (.inl rfl) (.inl rfl)) (VR.cons (HDOC.out.mono (fun b z => by have := HQD.out; omega)) (VR.cons hls (VR.none _ _))))) HBL.out.lt))
          clear HBN HBL HDOC hsw
          have y0 := HX16.out.c 0 rfl
          have y1 := HX16.out.c 1 rfl
          have y2 := HX16.out.c 2 rfl
          have y3 := HX16.out.c 3 rfl
          have y4 := HX16.out.c 4 rfl
          have HMw := Lib.hid (HML.out.on HBw.out)
          go_wp2_with fail
          clear y0 y1 y2 y3 y4 
          refine (Change_any _ wj _ _ HBACK.out (fun b h => h) HMw.out (back_bulk sw true L ver s HFE.out HTE.out HLE.out (by have := HVER.out; unfold I64; omega) HSZ.out.2)).mono ?_
          rintro e w26 ⟨hb, hC⟩
          have ok := back_ok sw true L ver s HFE.out HLE.out HVER.out HSZ.out
          rcases hC with ⟨-, RA, rcap, he, hE⟩ | ⟨hbad, -⟩
          rotate_left
          · rw [ok.1] at hbad; cases hbad
          rw [ok.2.1, ok.2.2.1, ok.2.2.2] at he
          rw [ok.2.2.2] at hE
          subst he
          have HRE := Lib.hid hE
          clear hE ok
          replace HES := Lib.hid (ES.same HES.out (below_same hb (fun b z => by have := HQ.out; omega)) (fun b z => z))
          replace HVS := Lib.hid (VS.on HVS.out (fun b z => by have := HQ.out; omega) hb)
          replace HBw := Lib.hid (HBw.out.trans (hb.mono (by have := HQ.out; have := HK1.out; omega)))
          replace HQ := Lib.hid (Nat.le_trans HQ.out hb.size)
          clear hb HMw
          go_wp2_with fail
          refine (SameEdits_true RA WA rcap wcap _ _ L w26 HRE.out HES.out (by have := HLE.out; omega)).mono ?_
          rintro e w27 ⟨rfl, nq, rfl⟩
          have hb := below_drewN (Below.refl w26.heap.size w26) nq
          replace HBw := Lib.hid (HBw.out.trans (hb.mono (by have := HQ.out; have := HK1.out; omega)))
          replace HQ : Hid (K0 ≤ (w26.drewN nq).heap.size) := Lib.hid (Nat.le_trans HQ.out hb.size)
          clear hb
          go_wp2_with fail
          refine (awake_any _ (HML.out.on HBw.out)).mono ?_
          rintro e w28 ⟨rfl, hb⟩
          replace HBw := Lib.hid (HBw.out.trans (hb.mono (by have := HQ.out; have := HK1.out; omega)))
          clear hb
          go_wp2
          go_ret
          exact ⟨rfl, HBw.out⟩
        · skip
          rw [hsw] at hd
          have hd2 : (qz == 1) = false := hd
          clear HDOC HX15 HHW
          have y0 := HX16.out.c 0 rfl
          have y1 := HX16.out.c 1 rfl
          have y2 := HX16.out.c 2 rfl
          have y3 := HX16.out.c 3 rfl
          have y4 := HX16.out.c 4 rfl
          have HMw := Lib.hid (HML.out.on HBw.out)
          go_wp2_with fail
          clear y0 y1 y2 y3 y4 hd hd2
          refine (Change_any _ wi _ _ HBACK.out (fun b h => h) HMw.out (back_bulk sw false L ver s HFE.out HTE.out HLE.out (by have := HVER.out; unfold I64; omega) HSZ.out.2)).mono ?_
          rintro e w26 ⟨hb, hC⟩
          have ok := back_ok sw false L ver s HFE.out HLE.out HVER.out HSZ.out
          rcases hC with ⟨-, RA, rcap, he, hE⟩ | ⟨hbad, -⟩
          rotate_left
          · rw [ok.1] at hbad; cases hbad
          rw [ok.2.1, ok.2.2.1, ok.2.2.2] at he
          rw [ok.2.2.2] at hE
          subst he
          have HRE := Lib.hid hE
          clear hE ok
          replace HES := Lib.hid (ES.same HES.out (below_same hb (fun b z => by have := HQ.out; omega)) (fun b z => z))
          replace HVS := Lib.hid (VS.on HVS.out (fun b z => by have := HQ.out; omega) hb)
          replace HBw := Lib.hid (HBw.out.trans (hb.mono (by have := HQ.out; have := HK1.out; omega)))
          replace HQ := Lib.hid (Nat.le_trans HQ.out hb.size)
          clear hb HMw
          go_wp2_with fail
          refine (SameEdits_true RA WA rcap wcap _ _ L w26 HRE.out HES.out (by have := HLE.out; omega)).mono ?_
          rintro e w27 ⟨rfl, nq, rfl⟩
          have hb := below_drewN (Below.refl w26.heap.size w26) nq
          replace HBw := Lib.hid (HBw.out.trans (hb.mono (by have := HQ.out; have := HK1.out; omega)))
          replace HQ : Hid (K0 ≤ (w26.drewN nq).heap.size) := Lib.hid (Nat.le_trans HQ.out hb.size)
          clear hb
          go_wp2_with fail
          refine (awake_any _ (HML.out.on HBw.out)).mono ?_
          rintro e w28 ⟨rfl, hb⟩
          replace HBw := Lib.hid (HBw.out.trans (hb.mono (by have := HQ.out; have := HK1.out; omega)))
          clear hb
          go_wp2
          go_ret
          exact ⟨rfl, HBw.out⟩
end Go.Proofs.YthndgekjccclnaaGreatDoor
