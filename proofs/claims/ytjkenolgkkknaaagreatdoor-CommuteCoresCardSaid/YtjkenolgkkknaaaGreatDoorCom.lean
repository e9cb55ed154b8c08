/- commute.Commute, whatever the four calls come to. Conditions: none. -/
import Derived.Test.YtjkenolgkkknaaaGreatDoorAsk
import Derived.Test.YtjkenolgkkknaaaGreatDoorSam
import Derived.Test.YtjkenolgkkknaaaGreatDoorDo0
set_option linter.unusedVariables false
set_option linter.unusedSimpArgs false
namespace Go.Proofs.YtjkenolgkkknaaaGreatDoor
open Go.RowKit
/-- A call, done at a state, wherever it lies. -/
def Did (S : PSt) (c : PCall) (S' : PSt) (r : PRes) : Prop := ∀ (w : World) (iv ov mv : Value), StRead w iv ov mv S → Calls Tryz.prog 20 #[.agg #[iv, ov, mv], .agg #[.int .i64 c.kind, .int .i64 c.core, .int .i64 c.fd, .int .i64 c.off, .int .i64 c.num, .string c.path, .string c.path2, .string c.data]] w fun e w' => Below w.heap.size w w' ∧ DoneAt w.heap.size S' r e w'
theorem CP.of_blk {w : World} {k : Nat} {c : PCall} (h : Blk w k #[.int .i64 c.kind, .int .i64 c.core, .int .i64 c.fd, .int .i64 c.off, .int .i64 c.num, .string c.path, .string c.path2, .string c.data] 29) : CP w k c :=
  ⟨h.lt.lt, fun t u hu => by rw [h.cell]; simpa [PCall.cells] using hu⟩
set_option maxRecDepth 100000 in
set_option maxHeartbeats 4000000 in
theorem commute_not (iv ov mv : Value) (S : PSt) (x y : PCall) (w : World) (h : StRead w iv ov mv S) (hwf : S.wf) (hno : askedM S x y = false) :
    Calls Tryz.prog 9 #[.agg #[iv, ov, mv], x.val, y.val] w fun e w' => e = .returned (.bool false) ∧ Below w.heap.size w w' := by
  have hio : iv.oneCell' = true := by obtain ⟨_, _, _, h3, _⟩ := h; exact h3.one
  have hoo := h.1.one
  have hmo := h.2.1.one
  have hask : ∀ ww k1 k2 k3, Below w.heap.size w ww → Blk ww k1 #[iv, ov, mv] 27 → Blk ww k2 #[.int .i64 x.kind, .int .i64 x.core, .int .i64 x.fd, .int .i64 x.off, .int .i64 x.num, .string x.path, .string x.path2, .string x.data] 29 → Blk ww k3 #[.int .i64 y.kind, .int .i64 y.core, .int .i64 y.fd, .int .i64 y.off, .int .i64 y.num, .string y.path, .string y.path2, .string y.data] 29 →
      Calls Tryz.prog 19 #[.pointer (some ⟨k1, 0, none⟩), .pointer (some ⟨k2, 0, none⟩), .pointer (some ⟨k3, 0, none⟩)] ww fun e w' => e = .returned (.bool false) ∧ Below ww.heap.size ww w' := fun ww k1 k2 k3 hb h1 h2 h3 => by
    have := asked19 k1 k2 k3 S x y ww (SP.of_blk h1 (h.below hb (Nat.le_refl _))) hwf (CP.of_blk h2) (CP.of_blk h3)
    rw [hno] at this
    exact this
  clear h hwf hno
  unfold PCall.val
  go_enter Tryz.func9, Tryz.ntmps9
  go_wp2_with (go_at_call 19; refine (hask _ _ _ _ (bel _ _) (by repeat (first | exact Blk.new_i _ _ _ _ | refine Blk.alloc ?_ _)) (by repeat (first | exact Blk.new_i _ _ _ _ | refine Blk.alloc ?_ _)) (by repeat (first | exact Blk.new_i _ _ _ _ | refine Blk.alloc ?_ _))).mono ?_; rintro e w' ⟨rfl, hb⟩; obtain ⟨p, rfl⟩ := hb.rest; clear hb)
  go_ret
  exact ⟨rfl, bel _ _⟩
/-- What lies from a number on is the same. -/
class Above (N : Nat) (a w : World) : Prop where
  eq : ∀ k, N ≤ k → k < a.heap.size → w.heap[k]? = a.heap[k]?
  size : a.heap.size ≤ w.heap.size
instance {X X' : World} {p : Behind} {n : Nat} [h : SizeIs X n] [h' : SizeIs X' n] : Above X.heap.size (X.junk p) (X'.junk p) := ⟨fun k hk _ => by
  have e1 := h.eq
  have e2 := h'.eq
  simp only [World.junk]
  rw [Array.getElem?_append_right (by omega), Array.getElem?_append_right (by omega), e1, e2], by
  have e1 := h.eq
  have e2 := h'.eq
  rw [World.size_junk0, World.size_junk0, e1, e2]
  exact Nat.le_refl _⟩
instance {N : Nat} {a w : World} {o : Obj} [h : Above N a w] : Above N a (w.alloc o) := ⟨fun k hk hl => by rw [RowKit.Below.heap_alloc w o k (Nat.lt_of_lt_of_le hl h.size)]; exact h.eq k hk hl, by have := h.size; simp; omega⟩
instance {N : Nat} {a w : World} {q : Behind} [h : Above N a w] : Above N a (w.junk q) := ⟨fun k hk hl => by rw [World.heap_junk w q (Nat.lt_of_lt_of_le hl h.size)]; exact h.eq k hk hl, by have := h.size; rw [World.size_junk0]; omega⟩
theorem OwnP.above {N : Nat} {w : World} {e : TypeId} {k : Nat} {v : Value} {rows : List (List Value)} (h : OwnP N w e k v rows) (w' : World) [ha : Above N w w'] : OwnP N w' e k v rows := by
  rcases h with h | ⟨g, cap, cur, rfl, hg, hb, r⟩
  · exact .inl h
  · exact .inr ⟨g, cap, cur, rfl, hg, (ha.eq g hg hb.lt.lt).trans hb, r⟩
theorem StOwn.above {N : Nat} {w : World} {iv ov mv : Value} {S : PSt} (h : StOwn N w iv ov mv S) (w' : World) [ha : Above N w w'] : StOwn N w' iv ov mv S := by
  obtain ⟨h1, h2, is, h3, h4, h5, h6⟩ := h
  exact ⟨h1.above w', h2.above w', is, h3.above w', h4, fun q r x hr hx => by
    obtain ⟨a1, a2, a3, a4⟩ := h5 q r x hr hx
    exact ⟨a1, a2, a3, a4.above w'⟩, h6⟩
theorem same21x (a b : PRes) (v u : Value) (s : Bool) (hs : sameM a b = s) (w : World) (hv : RowAt w 1 v (a.names.map strCells)) (hu : RowAt w 1 u (b.names.map strCells)) (hl : a.names.length ≤ 1000000000) :
    Calls Tryz.prog 21 #[.agg #[.int .i64 a.code, .int .i64 a.fd, .int .i64 a.num, .bool a.dir, .string a.data, v], .agg #[.int .i64 b.code, .int .i64 b.fd, .int .i64 b.num, .bool b.dir, .string b.data, u]] w fun e w' => e = .returned (.bool s) ∧ Below w.heap.size w w' := by
  rw [← hs]
  exact same21 a b v u w hv hu hl
theorem PRes.names_row {B : Nat} {w : World} {nv : Value} {r : PRes} (h : OwnP B w 9 1 nv (r.names.map strCells)) : RowAt w 1 nv (r.names.map strCells) := h.row
set_option maxRecDepth 100000 in
set_option maxHeartbeats 8000000 in
theorem commute_yes (iv ov mv : Value) (S S1 S2 S3 S4 : PSt) (x y : PCall) (r t u v : PRes) (sh : Bool) (w : World) (h : StRead w iv ov mv S) (hwf : S.wf) (hyes : askedM S x y = true)
    (D1 : Did S x S1 r) (D2 : Did S1 y S2 t) (D3 : Did S y S3 u) (D4 : Did S3 x S4 v) (hr : r.names.length ≤ 1000000000) (ht : t.names.length ≤ 1000000000)
    (hsh : sameM r v = true → sameM t u = true → ∀ (ww : World) (iv ov mv iv' ov' mv' : Value), Below w.heap.size w ww → StRead ww iv ov mv S2 → StRead ww iv' ov' mv' S4 → Calls Tryz.prog 22 #[.agg #[iv, ov, mv], .agg #[iv', ov', mv']] ww fun e w' => e = .returned (.bool sh) ∧ Below ww.heap.size ww w') :
    Calls Tryz.prog 9 #[.agg #[iv, ov, mv], x.val, y.val] w fun e w' => e = .returned (.bool (sameM r v && sameM t u && sh)) ∧ Below w.heap.size w w' := by
  have hio : iv.oneCell' = true := by obtain ⟨_, _, _, h3, _⟩ := h; exact h3.one
  have hoo := h.1.one
  have hmo := h.2.1.one
  have hask : ∀ ww k1 k2 k3, Below w.heap.size w ww → Blk ww k1 #[iv, ov, mv] 27 → Blk ww k2 #[.int .i64 x.kind, .int .i64 x.core, .int .i64 x.fd, .int .i64 x.off, .int .i64 x.num, .string x.path, .string x.path2, .string x.data] 29 → Blk ww k3 #[.int .i64 y.kind, .int .i64 y.core, .int .i64 y.fd, .int .i64 y.off, .int .i64 y.num, .string y.path, .string y.path2, .string y.data] 29 →
      Calls Tryz.prog 19 #[.pointer (some ⟨k1, 0, none⟩), .pointer (some ⟨k2, 0, none⟩), .pointer (some ⟨k3, 0, none⟩)] ww fun e w' => e = .returned (.bool true) ∧ Below ww.heap.size ww w' := fun ww k1 k2 k3 hb h1 h2 h3 => by
    have := asked19 k1 k2 k3 S x y ww (SP.of_blk h1 (h.below hb (Nat.le_refl _))) hwf (CP.of_blk h2) (CP.of_blk h3)
    rw [hyes] at this
    exact this
  have HS := Lib.hid h
  clear h hwf hyes
  unfold PCall.val
  generalize h1 : sameM r v = s1
  generalize h2 : sameM t u = s2
  rcases s1 with _ | _
  · simp only [Bool.false_and]
    go_enter Tryz.func9, Tryz.ntmps9
    go_upto_region 3 with (go_at_call 19; refine (hask _ _ _ _ (bel _ _) (by repeat (first | exact Blk.new_i _ _ _ _ | refine Blk.alloc ?_ _)) (by repeat (first | exact Blk.new_i _ _ _ _ | refine Blk.alloc ?_ _)) (by repeat (first | exact Blk.new_i _ _ _ _ | refine Blk.alloc ?_ _))).mono ?_; rintro e w' ⟨rfl, hb⟩; obtain ⟨p, rfl⟩ := hb.rest; clear hb)
    go_upto_region 4 with (go_at_call 20; refine (D1 _ _ _ _ (HS.out.below (bel w _) (Nat.le_refl _))).mono ?_; rintro e wa ⟨hb, iv1, ov1, mv1, nv1, rfl, hs1, hn1⟩; obtain ⟨pa, rfl⟩ := hb.rest; clear hb; have hr1 := hs1.read; obtain ⟨a11, a12, a13, a14, a15, a16, a17, a18, a19, rfl, rfl, rfl⟩ := hs1.forms; have hn1r := hn1.row; obtain ⟨n11, n12, n13, rfl⟩ := hn1.form; (try simp only [World.junk_junk] at hr1 hn1r); have H1 := Lib.hid (And.intro hr1 hn1r); clear hs1 hn1 hr1 hn1r)
    go_upto_region 5 with (go_at_call 20; refine (D2 _ _ _ _ (H1.out.1.below (bel _ _) (Nat.le_refl _))).mono ?_; rintro e wa ⟨hb, iv1, ov1, mv1, nv1, rfl, hs1, hn1⟩; obtain ⟨pa, rfl⟩ := hb.rest; clear hb; have hr1 := hs1; obtain ⟨a21, a22, a23, a24, a25, a26, a27, a28, a29, rfl, rfl, rfl⟩ := hs1.forms; have hn1r := hn1; obtain ⟨n21, n22, n23, rfl⟩ := hn1.form; have H2 := Lib.hid (And.intro hr1 hn1r); clear hs1 hn1 hr1 hn1r)
    go_upto_region 6 with (go_at_call 20; refine (D3 _ _ _ _ (HS.out.below (bel w _) (Nat.le_refl _))).mono ?_; rintro e wa ⟨hb, iv1, ov1, mv1, nv1, rfl, hs1, hn1⟩; obtain ⟨pa, rfl⟩ := hb.rest; clear hb; have hr1 := hs1.read; obtain ⟨a31, a32, a33, a34, a35, a36, a37, a38, a39, rfl, rfl, rfl⟩ := hs1.forms; have hn1r := hn1.row; obtain ⟨n31, n32, n33, rfl⟩ := hn1.form; (try simp only [World.junk_junk] at hr1 hn1r); have H3 := Lib.hid (And.intro hr1 hn1r); clear hs1 hn1 hr1 hn1r)
    go_upto_region 7 with (go_at_call 20; refine (D4 _ _ _ _ (H3.out.1.below (bel _ _) (Nat.le_refl _))).mono ?_; rintro e wa ⟨hb, iv1, ov1, mv1, nv1, rfl, hs1, hn1⟩; obtain ⟨pa, rfl⟩ := hb.rest; clear hb; have hr1 := hs1; obtain ⟨a41, a42, a43, a44, a45, a46, a47, a48, a49, rfl, rfl, rfl⟩ := hs1.forms; have hn1r := hn1; obtain ⟨n41, n42, n43, rfl⟩ := hn1.form; have H4 := Lib.hid (And.intro hr1 hn1r); clear hs1 hn1 hr1 hn1r)
    go_wp2_with (first | (go_at_call 21; with_reducible refine (same21x r v _ _ _ h1 _ (H1.out.2.below (bel _ _) (Nat.le_refl _)) (H4.out.2.above _).row hr).mono ?_; rintro e w' ⟨rfl, hb⟩; obtain ⟨p, rfl⟩ := hb.rest; clear hb) | (go_at_call 21; with_reducible refine (same21x t u _ _ _ h2 _ (H2.out.2.above _).row (H3.out.2.below (bel _ _) (Nat.le_refl _)) ht).mono ?_; rintro e w' ⟨rfl, hb⟩; obtain ⟨p, rfl⟩ := hb.rest; clear hb))
    go_ret
    exact ⟨rfl, bel w _⟩
  rcases s2 with _ | _
  · simp only [Bool.true_and, Bool.false_and]
    go_enter Tryz.func9, Tryz.ntmps9
    go_upto_region 3 with (go_at_call 19; refine (hask _ _ _ _ (bel _ _) (by repeat (first | exact Blk.new_i _ _ _ _ | refine Blk.alloc ?_ _)) (by repeat (first | exact Blk.new_i _ _ _ _ | refine Blk.alloc ?_ _)) (by repeat (first | exact Blk.new_i _ _ _ _ | refine Blk.alloc ?_ _))).mono ?_; rintro e w' ⟨rfl, hb⟩; obtain ⟨p, rfl⟩ := hb.rest; clear hb)
    go_upto_region 4 with (go_at_call 20; refine (D1 _ _ _ _ (HS.out.below (bel w _) (Nat.le_refl _))).mono ?_; rintro e wa ⟨hb, iv1, ov1, mv1, nv1, rfl, hs1, hn1⟩; obtain ⟨pa, rfl⟩ := hb.rest; clear hb; have hr1 := hs1.read; obtain ⟨a11, a12, a13, a14, a15, a16, a17, a18, a19, rfl, rfl, rfl⟩ := hs1.forms; have hn1r := hn1.row; obtain ⟨n11, n12, n13, rfl⟩ := hn1.form; (try simp only [World.junk_junk] at hr1 hn1r); have H1 := Lib.hid (And.intro hr1 hn1r); clear hs1 hn1 hr1 hn1r)
    go_upto_region 5 with (go_at_call 20; refine (D2 _ _ _ _ (H1.out.1.below (bel _ _) (Nat.le_refl _))).mono ?_; rintro e wa ⟨hb, iv1, ov1, mv1, nv1, rfl, hs1, hn1⟩; obtain ⟨pa, rfl⟩ := hb.rest; clear hb; have hr1 := hs1; obtain ⟨a21, a22, a23, a24, a25, a26, a27, a28, a29, rfl, rfl, rfl⟩ := hs1.forms; have hn1r := hn1; obtain ⟨n21, n22, n23, rfl⟩ := hn1.form; have H2 := Lib.hid (And.intro hr1 hn1r); clear hs1 hn1 hr1 hn1r)
    go_upto_region 6 with (go_at_call 20; refine (D3 _ _ _ _ (HS.out.below (bel w _) (Nat.le_refl _))).mono ?_; rintro e wa ⟨hb, iv1, ov1, mv1, nv1, rfl, hs1, hn1⟩; obtain ⟨pa, rfl⟩ := hb.rest; clear hb; have hr1 := hs1.read; obtain ⟨a31, a32, a33, a34, a35, a36, a37, a38, a39, rfl, rfl, rfl⟩ := hs1.forms; have hn1r := hn1.row; obtain ⟨n31, n32, n33, rfl⟩ := hn1.form; (try simp only [World.junk_junk] at hr1 hn1r); have H3 := Lib.hid (And.intro hr1 hn1r); clear hs1 hn1 hr1 hn1r)
    go_upto_region 7 with (go_at_call 20; refine (D4 _ _ _ _ (H3.out.1.below (bel _ _) (Nat.le_refl _))).mono ?_; rintro e wa ⟨hb, iv1, ov1, mv1, nv1, rfl, hs1, hn1⟩; obtain ⟨pa, rfl⟩ := hb.rest; clear hb; have hr1 := hs1; obtain ⟨a41, a42, a43, a44, a45, a46, a47, a48, a49, rfl, rfl, rfl⟩ := hs1.forms; have hn1r := hn1; obtain ⟨n41, n42, n43, rfl⟩ := hn1.form; have H4 := Lib.hid (And.intro hr1 hn1r); clear hs1 hn1 hr1 hn1r)
    go_wp2_with (first | (go_at_call 21; with_reducible refine (same21x r v _ _ _ h1 _ (H1.out.2.below (bel _ _) (Nat.le_refl _)) (H4.out.2.above _).row hr).mono ?_; rintro e w' ⟨rfl, hb⟩; obtain ⟨p, rfl⟩ := hb.rest; clear hb) | (go_at_call 21; with_reducible refine (same21x t u _ _ _ h2 _ (H2.out.2.above _).row (H3.out.2.below (bel _ _) (Nat.le_refl _)) ht).mono ?_; rintro e w' ⟨rfl, hb⟩; obtain ⟨p, rfl⟩ := hb.rest; clear hb))
    go_ret
    exact ⟨rfl, bel w _⟩
  have hsh2 := hsh h1 h2
  clear hsh
  simp only [Bool.true_and]
  go_enter Tryz.func9, Tryz.ntmps9
  go_upto_region 3 with (go_at_call 19; refine (hask _ _ _ _ (bel _ _) (by repeat (first | exact Blk.new_i _ _ _ _ | refine Blk.alloc ?_ _)) (by repeat (first | exact Blk.new_i _ _ _ _ | refine Blk.alloc ?_ _)) (by repeat (first | exact Blk.new_i _ _ _ _ | refine Blk.alloc ?_ _))).mono ?_; rintro e w' ⟨rfl, hb⟩; obtain ⟨p, rfl⟩ := hb.rest; clear hb)
  go_upto_region 4 with (go_at_call 20; refine (D1 _ _ _ _ (HS.out.below (bel w _) (Nat.le_refl _))).mono ?_; rintro e wa ⟨hb, iv1, ov1, mv1, nv1, rfl, hs1, hn1⟩; obtain ⟨pa, rfl⟩ := hb.rest; clear hb; have hr1 := hs1.read; obtain ⟨a11, a12, a13, a14, a15, a16, a17, a18, a19, rfl, rfl, rfl⟩ := hs1.forms; have hn1r := hn1.row; obtain ⟨n11, n12, n13, rfl⟩ := hn1.form; (try simp only [World.junk_junk] at hr1 hn1r); have H1 := Lib.hid (And.intro hr1 hn1r); clear hs1 hn1 hr1 hn1r)
  go_upto_region 5 with (go_at_call 20; refine (D2 _ _ _ _ (H1.out.1.below (bel _ _) (Nat.le_refl _))).mono ?_; rintro e wa ⟨hb, iv1, ov1, mv1, nv1, rfl, hs1, hn1⟩; obtain ⟨pa, rfl⟩ := hb.rest; clear hb; have hr1 := hs1; obtain ⟨a21, a22, a23, a24, a25, a26, a27, a28, a29, rfl, rfl, rfl⟩ := hs1.forms; have hn1r := hn1; obtain ⟨n21, n22, n23, rfl⟩ := hn1.form; have H2 := Lib.hid (And.intro hr1 hn1r); clear hs1 hn1 hr1 hn1r)
  go_upto_region 6 with (go_at_call 20; refine (D3 _ _ _ _ (HS.out.below (bel w _) (Nat.le_refl _))).mono ?_; rintro e wa ⟨hb, iv1, ov1, mv1, nv1, rfl, hs1, hn1⟩; obtain ⟨pa, rfl⟩ := hb.rest; clear hb; have hr1 := hs1.read; obtain ⟨a31, a32, a33, a34, a35, a36, a37, a38, a39, rfl, rfl, rfl⟩ := hs1.forms; have hn1r := hn1.row; obtain ⟨n31, n32, n33, rfl⟩ := hn1.form; (try simp only [World.junk_junk] at hr1 hn1r); have H3 := Lib.hid (And.intro hr1 hn1r); clear hs1 hn1 hr1 hn1r)
  go_upto_region 7 with (go_at_call 20; refine (D4 _ _ _ _ (H3.out.1.below (bel _ _) (Nat.le_refl _))).mono ?_; rintro e wa ⟨hb, iv1, ov1, mv1, nv1, rfl, hs1, hn1⟩; obtain ⟨pa, rfl⟩ := hb.rest; clear hb; have hr1 := hs1; obtain ⟨a41, a42, a43, a44, a45, a46, a47, a48, a49, rfl, rfl, rfl⟩ := hs1.forms; have hn1r := hn1; obtain ⟨n41, n42, n43, rfl⟩ := hn1.form; have H4 := Lib.hid (And.intro hr1 hn1r); clear hs1 hn1 hr1 hn1r)
  go_wp2_with (first | (go_at_call 21; with_reducible refine (same21x r v _ _ _ h1 _ (H1.out.2.below (bel _ _) (Nat.le_refl _)) (H4.out.2.above _).row hr).mono ?_; rintro e w' ⟨rfl, hb⟩; obtain ⟨p, rfl⟩ := hb.rest; clear hb) | (go_at_call 21; with_reducible refine (same21x t u _ _ _ h2 _ (H2.out.2.above _).row (H3.out.2.below (bel _ _) (Nat.le_refl _)) ht).mono ?_; rintro e w' ⟨rfl, hb⟩; obtain ⟨p, rfl⟩ := hb.rest; clear hb) | (go_at_call 22; refine (hsh2 _ _ _ _ _ _ _ (bel w _) (H2.out.1.above _).read (H4.out.1.above _).read).mono ?_; rintro e w' ⟨rfl, hb⟩; obtain ⟨p, rfl⟩ := hb.rest; clear hb))
  go_ret
  exact ⟨rfl, bel w _⟩
end Go.Proofs.YtjkenolgkkknaaaGreatDoor
