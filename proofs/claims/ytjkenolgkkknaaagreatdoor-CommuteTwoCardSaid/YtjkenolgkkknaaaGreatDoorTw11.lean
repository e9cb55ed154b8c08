/- commute.Commute, whatever the four calls come to. Conditions: none. The reference's New and Num. Conditions: none. The writer of package shape: a strings.Builder within a struct. Conditions: none. Links of the model: how many names an inode has. Conditions: none. Finding an inode by its number in a slice of inodes, as package shape does. Conditions: none. -/
import Derived.Test.YtjkenolgkkknaaaGreatDoorTw10
import Derived.Test.YtjkenolgkkknaaaGreatDoorTw07
import Derived.Shelf.Strings.Builder1
import Derived.Shelf.Strings.Builder2
import Derived.Shelf.Strings.OnBuilder
import Derived.Shelf.Strconv.Itoa0
import Derived.Shelf.Strconv.Itoa1
import Derived.Shelf.LaysM
import Derived.Shelf.Strconv.Itoa2
import Derived.Shelf.Strconv.Itoa3
import Derived.Shelf.Slices.Turned
import Derived.Shelf.Slices.Empties2
import Derived.Test.YtjkenolgkkknaaaGreatDoorProg
import Derived.Test.YtjkenolgkkknaaaGreatDoorTw01
import Derived.Test.YtjkenolgkkknaaaGreatDoorTw05
import Derived.Test.YtjkenolgkkknaaaGreatDoorTw02
set_option linter.unusedVariables false
set_option linter.unusedSimpArgs false
namespace Go.Proofs.YtjkenolgkkknaaaGreatDoor
open Go.RowKit
/-- A call, done at a state, wherever it lies. -/
def Did (S : PSt) (c : PCall) (S' : PSt) (r : PRes) : Prop := ∀ (w : World) (iv ov mv : Value), StRead w iv ov mv S → Calls Tryz.prog 20 #[.agg #[iv, ov, mv], .agg #[.int .i64 c.kind, .int .i64 c.core, .int .i64 c.fd, .int .i64 c.off, .int .i64 c.num, .string c.path, .string c.path2, .string c.data]] w fun e w' => Below w.heap.size w w' ∧ DoneAt w.heap.size S' r e w'
theorem CP.of_blk {w : World} {k : Nat} {c : PCall} (h : Blk w k #[.int .i64 c.kind, .int .i64 c.core, .int .i64 c.fd, .int .i64 c.off, .int .i64 c.num, .string c.path, .string c.path2, .string c.data] 29) : CP w k c :=
  ⟨h.lt.lt, fun t u hu => by rw [h.cell]; simpa [PCall.cells] using hu⟩
set_option maxRecDepth 100000 in
set_option maxHeartbeats 4000000 in
theorem commute_not (iv ov mv : Value) (S : PSt) (x y : PCall) (w : World) (h : StRead w iv ov mv S) (hwf : S.wf) (hno : askedM S x y = false) :
    Calls Tryz.prog 9 #[.agg #[iv, ov, mv], x.val, y.val] w fun e w' => e = .returned (.bool false) ∧ Below w.heap.size w w' := by
  have hio : iv.oneCell' = true := by obtain ⟨_, _, _, h3, _⟩ := h; exact h3.one
  have hoo := h.1.one
  have hmo := h.2.1.one
  have hask : ∀ ww k1 k2 k3, Below w.heap.size w ww → Blk ww k1 #[iv, ov, mv] 27 → Blk ww k2 #[.int .i64 x.kind, .int .i64 x.core, .int .i64 x.fd, .int .i64 x.off, .int .i64 x.num, .string x.path, .string x.path2, .string x.data] 29 → Blk ww k3 #[.int .i64 y.kind, .int .i64 y.core, .int .i64 y.fd, .int .i64 y.off, .int .i64 y.num, .string y.path, .string y.path2, .string y.data] 29 →
      Calls Tryz.prog 19 #[.pointer (some ⟨k1, 0, none⟩), .pointer (some ⟨k2, 0, none⟩), .pointer (some ⟨k3, 0, none⟩)] ww fun e w' => e = .returned (.bool false) ∧ Below ww.heap.size ww w' := fun ww k1 k2 k3 hb h1 h2 h3 => by
    have := asked19 k1 k2 k3 S x y ww (SP.of_blk h1 (h.below hb (Nat.le_refl _))) hwf (CP.of_blk h2) (CP.of_blk h3)
    rw [hno] at this
    exact this
  clear h hwf hno
  unfold PCall.val
  go_enter Tryz.func9, Tryz.ntmps9
  go_wp2_with (go_at_call 19; refine (hask _ _ _ _ (bel _ _) (by repeat (first | exact Blk.new_i _ _ _ _ | refine Blk.alloc ?_ _)) (by repeat (first | exact Blk.new_i _ _ _ _ | refine Blk.alloc ?_ _)) (by repeat (first | exact Blk.new_i _ _ _ _ | refine Blk.alloc ?_ _))).mono ?_; rintro e w' ⟨rfl, hb⟩; obtain ⟨p, rfl⟩ := hb.rest; clear hb)
  go_ret
  exact ⟨rfl, bel _ _⟩
/-- What lies from a number on is the same. -/
class Above (N : Nat) (a w : World) : Prop where
  eq : ∀ k, N ≤ k → k < a.heap.size → w.heap[k]? = a.heap[k]?
  size : a.heap.size ≤ w.heap.size
instance {X X' : World} {p : Behind} {n : Nat} [h : SizeIs X n] [h' : SizeIs X' n] : Above X.heap.size (X.junk p) (X'.junk p) := ⟨fun k hk _ => by
  have e1 := h.eq
  have e2 := h'.eq
  simp only [World.junk]
  rw [Array.getElem?_append_right (by omega), Array.getElem?_append_right (by omega), e1, e2], by
  have e1 := h.eq
  have e2 := h'.eq
  rw [World.size_junk0, World.size_junk0, e1, e2]
  exact Nat.le_refl _⟩
instance {N : Nat} {a w : World} {o : Obj} [h : Above N a w] : Above N a (w.alloc o) := ⟨fun k hk hl => by rw [RowKit.Below.heap_alloc w o k (Nat.lt_of_lt_of_le hl h.size)]; exact h.eq k hk hl, by have := h.size; simp; omega⟩
instance {N : Nat} {a w : World} {q : Behind} [h : Above N a w] : Above N a (w.junk q) := ⟨fun k hk hl => by rw [World.heap_junk w q (Nat.lt_of_lt_of_le hl h.size)]; exact h.eq k hk hl, by have := h.size; rw [World.size_junk0]; omega⟩
theorem OwnP.above {N : Nat} {w : World} {e : TypeId} {k : Nat} {v : Value} {rows : List (List Value)} (h : OwnP N w e k v rows) (w' : World) [ha : Above N w w'] : OwnP N w' e k v rows := by
  rcases h with h | ⟨g, cap, cur, rfl, hg, hb, r⟩
  · exact .inl h
  · exact .inr ⟨g, cap, cur, rfl, hg, (ha.eq g hg hb.lt.lt).trans hb, r⟩
theorem StOwn.above {N : Nat} {w : World} {iv ov mv : Value} {S : PSt} (h : StOwn N w iv ov mv S) (w' : World) [ha : Above N w w'] : StOwn N w' iv ov mv S := by
  obtain ⟨h1, h2, is, h3, h4, h5, h6⟩ := h
  exact ⟨h1.above w', h2.above w', is, h3.above w', h4, fun q r x hr hx => by
    obtain ⟨a1, a2, a3, a4⟩ := h5 q r x hr hx
    exact ⟨a1, a2, a3, a4.above w'⟩, h6⟩
theorem same21x (a b : PRes) (v u : Value) (s : Bool) (hs : sameM a b = s) (w : World) (hv : RowAt w 1 v (a.names.map strCells)) (hu : RowAt w 1 u (b.names.map strCells)) (hl : a.names.length ≤ 1000000000) :
    Calls Tryz.prog 21 #[.agg #[.int .i64 a.code, .int .i64 a.fd, .int .i64 a.num, .bool a.dir, .string a.data, v], .agg #[.int .i64 b.code, .int .i64 b.fd, .int .i64 b.num, .bool b.dir, .string b.data, u]] w fun e w' => e = .returned (.bool s) ∧ Below w.heap.size w w' := by
  rw [← hs]
  exact same21 a b v u w hv hu hl
set_option maxRecDepth 100000 in
set_option maxHeartbeats 8000000 in
theorem commute_yes (iv ov mv : Value) (S S1 S2 S3 S4 : PSt) (x y : PCall) (r t u v : PRes) (sh : Bool) (w : World) (h : StRead w iv ov mv S) (hwf : S.wf) (hyes : askedM S x y = true)
    (D1 : Did S x S1 r) (D2 : Did S1 y S2 t) (D3 : Did S y S3 u) (D4 : Did S3 x S4 v) (hr : r.names.length ≤ 1000000000) (ht : t.names.length ≤ 1000000000)
    (hsh : sameM r v = true → sameM t u = true → ∀ (ww : World) (iv ov mv iv' ov' mv' : Value), Below w.heap.size w ww → StRead ww iv ov mv S2 → StRead ww iv' ov' mv' S4 → Calls Tryz.prog 22 #[.agg #[iv, ov, mv], .agg #[iv', ov', mv']] ww fun e w' => e = .returned (.bool sh) ∧ Below ww.heap.size ww w') :
    Calls Tryz.prog 9 #[.agg #[iv, ov, mv], x.val, y.val] w fun e w' => e = .returned (.bool (sameM r v && sameM t u && sh)) ∧ Below w.heap.size w w' := by
  have hio : iv.oneCell' = true := by obtain ⟨_, _, _, h3, _⟩ := h; exact h3.one
  have hoo := h.1.one
  have hmo := h.2.1.one
  have hask : ∀ ww k1 k2 k3, Below w.heap.size w ww → Blk ww k1 #[iv, ov, mv] 27 → Blk ww k2 #[.int .i64 x.kind, .int .i64 x.core, .int .i64 x.fd, .int .i64 x.off, .int .i64 x.num, .string x.path, .string x.path2, .string x.data] 29 → Blk ww k3 #[.int .i64 y.kind, .int .i64 y.core, .int .i64 y.fd, .int .i64 y.off, .int .i64 y.num, .string y.path, .string y.path2, .string y.data] 29 →
      Calls Tryz.prog 19 #[.pointer (some ⟨k1, 0, none⟩), .pointer (some ⟨k2, 0, none⟩), .pointer (some ⟨k3, 0, none⟩)] ww fun e w' => e = .returned (.bool true) ∧ Below ww.heap.size ww w' := fun ww k1 k2 k3 hb h1 h2 h3 => by
    have := asked19 k1 k2 k3 S x y ww (SP.of_blk h1 (h.below hb (Nat.le_refl _))) hwf (CP.of_blk h2) (CP.of_blk h3)
    rw [hyes] at this
    exact this
  have HS := Lib.hid h
  clear h hwf hyes
  unfold PCall.val
  generalize h1 : sameM r v = s1
  generalize h2 : sameM t u = s2
  rcases s1 with _ | _
  · simp only [Bool.false_and]
    go_enter Tryz.func9, Tryz.ntmps9
    go_upto_region 3 with (go_at_call 19; refine (hask _ _ _ _ (bel _ _) (by repeat (first | exact Blk.new_i _ _ _ _ | refine Blk.alloc ?_ _)) (by repeat (first | exact Blk.new_i _ _ _ _ | refine Blk.alloc ?_ _)) (by repeat (first | exact Blk.new_i _ _ _ _ | refine Blk.alloc ?_ _))).mono ?_; rintro e w' ⟨rfl, hb⟩; obtain ⟨p, rfl⟩ := hb.rest; clear hb)
    go_upto_region 4 with (go_at_call 20; refine (D1 _ _ _ _ (HS.out.below (bel w _) (Nat.le_refl _))).mono ?_; rintro e wa ⟨hb, iv1, ov1, mv1, nv1, rfl, hs1, hn1⟩; obtain ⟨pa, rfl⟩ := hb.rest; clear hb; have hr1 := hs1.read; obtain ⟨a11, a12, a13, a14, a15, a16, a17, a18, a19, rfl, rfl, rfl⟩ := hs1.forms; have hn1r := hn1.row; obtain ⟨n11, n12, n13, rfl⟩ := hn1.form; (try simp only [World.junk_junk] at hr1 hn1r); have H1 := Lib.hid (And.intro hr1 hn1r); clear hs1 hn1 hr1 hn1r)
    go_upto_region 5 with (go_at_call 20; refine (D2 _ _ _ _ (H1.out.1.below (bel _ _) (Nat.le_refl _))).mono ?_; rintro e wa ⟨hb, iv1, ov1, mv1, nv1, rfl, hs1, hn1⟩; obtain ⟨pa, rfl⟩ := hb.rest; clear hb; have hr1 := hs1; obtain ⟨a21, a22, a23, a24, a25, a26, a27, a28, a29, rfl, rfl, rfl⟩ := hs1.forms; have hn1r := hn1; obtain ⟨n21, n22, n23, rfl⟩ := hn1.form; have H2 := Lib.hid (And.intro hr1 hn1r); clear hs1 hn1 hr1 hn1r)
    go_upto_region 6 with (go_at_call 20; refine (D3 _ _ _ _ (HS.out.below (bel w _) (Nat.le_refl _))).mono ?_; rintro e wa ⟨hb, iv1, ov1, mv1, nv1, rfl, hs1, hn1⟩; obtain ⟨pa, rfl⟩ := hb.rest; clear hb; have hr1 := hs1.read; obtain ⟨a31, a32, a33, a34, a35, a36, a37, a38, a39, rfl, rfl, rfl⟩ := hs1.forms; have hn1r := hn1.row; obtain ⟨n31, n32, n33, rfl⟩ := hn1.form; (try simp only [World.junk_junk] at hr1 hn1r); have H3 := Lib.hid (And.intro hr1 hn1r); clear hs1 hn1 hr1 hn1r)
    go_upto_region 7 with (go_at_call 20; refine (D4 _ _ _ _ (H3.out.1.below (bel _ _) (Nat.le_refl _))).mono ?_; rintro e wa ⟨hb, iv1, ov1, mv1, nv1, rfl, hs1, hn1⟩; obtain ⟨pa, rfl⟩ := hb.rest; clear hb; have hr1 := hs1; obtain ⟨a41, a42, a43, a44, a45, a46, a47, a48, a49, rfl, rfl, rfl⟩ := hs1.forms; have hn1r := hn1; obtain ⟨n41, n42, n43, rfl⟩ := hn1.form; have H4 := Lib.hid (And.intro hr1 hn1r); clear hs1 hn1 hr1 hn1r)
    go_wp2_with (first | (go_at_call 21; with_reducible refine (same21x r v _ _ _ h1 _ (H1.out.2.below (bel _ _) (Nat.le_refl _)) (H4.out.2.above _).row hr).mono ?_; rintro e w' ⟨rfl, hb⟩; obtain ⟨p, rfl⟩ := hb.rest; clear hb) | (go_at_call 21; with_reducible refine (same21x t u _ _ _ h2 _ (H2.out.2.above _).row (H3.out.2.below (bel _ _) (Nat.le_refl _)) ht).mono ?_; rintro e w' ⟨rfl, hb⟩; obtain ⟨p, rfl⟩ := hb.rest; clear hb))
    go_ret
    exact ⟨rfl, bel w _⟩
  rcases s2 with _ | _
  · simp only [Bool.true_and, Bool.false_and]
    go_enter Tryz.func9, Tryz.ntmps9
    go_upto_region 3 with (go_at_call 19; refine (hask _ _ _ _ (bel _ _) (by repeat (first | exact Blk.new_i _ _ _ _ | refine Blk.alloc ?_ _)) (by repeat (first | exact Blk.new_i _ _ _ _ | refine Blk.alloc ?_ _)) (by repeat (first | exact Blk.new_i _ _ _ _ | refine Blk.alloc ?_ _))).mono ?_; rintro e w' ⟨rfl, hb⟩; obtain ⟨p, rfl⟩ := hb.rest; clear hb)
    go_upto_region 4 with (go_at_call 20; refine (D1 _ _ _ _ (HS.out.below (bel w _) (Nat.le_refl _))).mono ?_; rintro e wa ⟨hb, iv1, ov1, mv1, nv1, rfl, hs1, hn1⟩; obtain ⟨pa, rfl⟩ := hb.rest; clear hb; have hr1 := hs1.read; obtain ⟨a11, a12, a13, a14, a15, a16, a17, a18, a19, rfl, rfl, rfl⟩ := hs1.forms; have hn1r := hn1.row; obtain ⟨n11, n12, n13, rfl⟩ := hn1.form; (try simp only [World.junk_junk] at hr1 hn1r); have H1 := Lib.hid (And.intro hr1 hn1r); clear hs1 hn1 hr1 hn1r)
    go_upto_region 5 with (go_at_call 20; refine (D2 _ _ _ _ (H1.out.1.below (bel _ _) (Nat.le_refl _))).mono ?_; rintro e wa ⟨hb, iv1, ov1, mv1, nv1, rfl, hs1, hn1⟩; obtain ⟨pa, rfl⟩ := hb.rest; clear hb; have hr1 := hs1; obtain ⟨a21, a22, a23, a24, a25, a26, a27, a28, a29, rfl, rfl, rfl⟩ := hs1.forms; have hn1r := hn1; obtain ⟨n21, n22, n23, rfl⟩ := hn1.form; have H2 := Lib.hid (And.intro hr1 hn1r); clear hs1 hn1 hr1 hn1r)
    go_upto_region 6 with (go_at_call 20; refine (D3 _ _ _ _ (HS.out.below (bel w _) (Nat.le_refl _))).mono ?_; rintro e wa ⟨hb, iv1, ov1, mv1, nv1, rfl, hs1, hn1⟩; obtain ⟨pa, rfl⟩ := hb.rest; clear hb; have hr1 := hs1.read; obtain ⟨a31, a32, a33, a34, a35, a36, a37, a38, a39, rfl, rfl, rfl⟩ := hs1.forms; have hn1r := hn1.row; obtain ⟨n31, n32, n33, rfl⟩ := hn1.form; (try simp only [World.junk_junk] at hr1 hn1r); have H3 := Lib.hid (And.intro hr1 hn1r); clear hs1 hn1 hr1 hn1r)
    go_upto_region 7 with (go_at_call 20; refine (D4 _ _ _ _ (H3.out.1.below (bel _ _) (Nat.le_refl _))).mono ?_; rintro e wa ⟨hb, iv1, ov1, mv1, nv1, rfl, hs1, hn1⟩; obtain ⟨pa, rfl⟩ := hb.rest; clear hb; have hr1 := hs1; obtain ⟨a41, a42, a43, a44, a45, a46, a47, a48, a49, rfl, rfl, rfl⟩ := hs1.forms; have hn1r := hn1; obtain ⟨n41, n42, n43, rfl⟩ := hn1.form; have H4 := Lib.hid (And.intro hr1 hn1r); clear hs1 hn1 hr1 hn1r)
    go_wp2_with (first | (go_at_call 21; with_reducible refine (same21x r v _ _ _ h1 _ (H1.out.2.below (bel _ _) (Nat.le_refl _)) (H4.out.2.above _).row hr).mono ?_; rintro e w' ⟨rfl, hb⟩; obtain ⟨p, rfl⟩ := hb.rest; clear hb) | (go_at_call 21; with_reducible refine (same21x t u _ _ _ h2 _ (H2.out.2.above _).row (H3.out.2.below (bel _ _) (Nat.le_refl _)) ht).mono ?_; rintro e w' ⟨rfl, hb⟩; obtain ⟨p, rfl⟩ := hb.rest; clear hb))
    go_ret
    exact ⟨rfl, bel w _⟩
  have hsh2 := hsh h1 h2
  clear hsh
  simp only [Bool.true_and]
  go_enter Tryz.func9, Tryz.ntmps9
  go_upto_region 3 with (go_at_call 19; refine (hask _ _ _ _ (bel _ _) (by repeat (first | exact Blk.new_i _ _ _ _ | refine Blk.alloc ?_ _)) (by repeat (first | exact Blk.new_i _ _ _ _ | refine Blk.alloc ?_ _)) (by repeat (first | exact Blk.new_i _ _ _ _ | refine Blk.alloc ?_ _))).mono ?_; rintro e w' ⟨rfl, hb⟩; obtain ⟨p, rfl⟩ := hb.rest; clear hb)
  go_upto_region 4 with (go_at_call 20; refine (D1 _ _ _ _ (HS.out.below (bel w _) (Nat.le_refl _))).mono ?_; rintro e wa ⟨hb, iv1, ov1, mv1, nv1, rfl, hs1, hn1⟩; obtain ⟨pa, rfl⟩ := hb.rest; clear hb; have hr1 := hs1.read; obtain ⟨a11, a12, a13, a14, a15, a16, a17, a18, a19, rfl, rfl, rfl⟩ := hs1.forms; have hn1r := hn1.row; obtain ⟨n11, n12, n13, rfl⟩ := hn1.form; (try simp only [World.junk_junk] at hr1 hn1r); have H1 := Lib.hid (And.intro hr1 hn1r); clear hs1 hn1 hr1 hn1r)
  go_upto_region 5 with (go_at_call 20; refine (D2 _ _ _ _ (H1.out.1.below (bel _ _) (Nat.le_refl _))).mono ?_; rintro e wa ⟨hb, iv1, ov1, mv1, nv1, rfl, hs1, hn1⟩; obtain ⟨pa, rfl⟩ := hb.rest; clear hb; have hr1 := hs1; obtain ⟨a21, a22, a23, a24, a25, a26, a27, a28, a29, rfl, rfl, rfl⟩ := hs1.forms; have hn1r := hn1; obtain ⟨n21, n22, n23, rfl⟩ := hn1.form; have H2 := Lib.hid (And.intro hr1 hn1r); clear hs1 hn1 hr1 hn1r)
  go_upto_region 6 with (go_at_call 20; refine (D3 _ _ _ _ (HS.out.below (bel w _) (Nat.le_refl _))).mono ?_; rintro e wa ⟨hb, iv1, ov1, mv1, nv1, rfl, hs1, hn1⟩; obtain ⟨pa, rfl⟩ := hb.rest; clear hb; have hr1 := hs1.read; obtain ⟨a31, a32, a33, a34, a35, a36, a37, a38, a39, rfl, rfl, rfl⟩ := hs1.forms; have hn1r := hn1.row; obtain ⟨n31, n32, n33, rfl⟩ := hn1.form; (try simp only [World.junk_junk] at hr1 hn1r); have H3 := Lib.hid (And.intro hr1 hn1r); clear hs1 hn1 hr1 hn1r)
  go_upto_region 7 with (go_at_call 20; refine (D4 _ _ _ _ (H3.out.1.below (bel _ _) (Nat.le_refl _))).mono ?_; rintro e wa ⟨hb, iv1, ov1, mv1, nv1, rfl, hs1, hn1⟩; obtain ⟨pa, rfl⟩ := hb.rest; clear hb; have hr1 := hs1; obtain ⟨a41, a42, a43, a44, a45, a46, a47, a48, a49, rfl, rfl, rfl⟩ := hs1.forms; have hn1r := hn1; obtain ⟨n41, n42, n43, rfl⟩ := hn1.form; have H4 := Lib.hid (And.intro hr1 hn1r); clear hs1 hn1 hr1 hn1r)
  go_wp2_with (first | (go_at_call 21; with_reducible refine (same21x r v _ _ _ h1 _ (H1.out.2.below (bel _ _) (Nat.le_refl _)) (H4.out.2.above _).row hr).mono ?_; rintro e w' ⟨rfl, hb⟩; obtain ⟨p, rfl⟩ := hb.rest; clear hb) | (go_at_call 21; with_reducible refine (same21x t u _ _ _ h2 _ (H2.out.2.above _).row (H3.out.2.below (bel _ _) (Nat.le_refl _)) ht).mono ?_; rintro e w' ⟨rfl, hb⟩; obtain ⟨p, rfl⟩ := hb.rest; clear hb) | (go_at_call 22; refine (hsh2 _ _ _ _ _ _ _ (bel w _) (H2.out.1.above _).read (H4.out.1.above _).read).mono ?_; rintro e w' ⟨rfl, hb⟩; obtain ⟨p, rfl⟩ := hb.rest; clear hb))
  go_ret
  exact ⟨rfl, bel w _⟩
end Go.Proofs.YtjkenolgkkknaaaGreatDoor
namespace Go.Proofs.YtjkenolgkkknaaaGreatDoor
open Go.RowKit
theorem num12 (n : Int) (w : World) : Calls Tryz.prog 12 #[.int .i64 n] w fun e w' => e = .returned (.int .i64 n) ∧ Below w.heap.size w w' := by
  go_enter Tryz.func12, Tryz.ntmps12
  go_wp2_with fail
  go_ret
  exact ⟨rfl, bel _ _⟩
/-- The empty state of n cores. -/
def newSt (n : Nat) : PSt := ⟨[⟨1, true, [], { data := #[] }⟩], [], List.replicate n 0⟩
theorem made_map' {α : Type} (f : α → Value) (z : α) (n : Nat) : madeCells #[f z] n = ((List.replicate n z).map f).toArray := by
  apply Array.toList_inj.1
  rw [toList_madeCells_one]
  simp
theorem RowAt.of_blk1 {w : World} {b : Nat} {t : TypeId} (xs : List Int) (cap : Nat) (h : Blk w b (xs.map fun x => Value.int .i64 x).toArray t) (hm : xs.length ≤ maxLen) : RowAt w 1 (.slice (some ⟨b, 0, none⟩) xs.length cap) (xs.map intCells) := by
  refine ⟨_, _, by rw [List.length_map], by rw [List.length_map]; exact hm, fun _ => ⟨b, 0, rfl, h.lt.lt, fun q cs hq t u hu => ?_⟩⟩
  rw [List.getElem?_map] at hq
  obtain ⟨x, hx, rfl⟩ := Option.map_eq_some_iff.1 hq
  rcases t with _ | t
  · simp only [intCells, List.getElem?_cons_zero, Option.some.injEq] at hu
    subst hu
    rw [h.cell]
    simp [hx]
  · simp [intCells] at hu
set_option maxRecDepth 100000 in
set_option maxHeartbeats 2000000 in
theorem new11 (n : Nat) (h1 : 1 ≤ n) (h8 : n ≤ 8) (w : World) :
    Calls Tryz.prog 11 #[.int .i64 n] w fun e w' => ∃ iv ov mv, e = .returned (.tuple #[.agg #[iv, ov, mv], .int .i64 0]) ∧ Below w.heap.size w w' ∧ StRead w' iv ov mv (newSt n) := by
  obtain ⟨i0, hi, hz0, hz1, hz2⟩ := info_parts info3
  have hmk : ∀ u : World, (Instr.makeSlice 25 (.int .i64 n) (.int .i64 n)).run Tryz.prog u = .ok (.slice (some ⟨u.heap.size, 0, none⟩) n n) (u.alloc (.cells ((List.replicate n (0 : Int)).map fun x => Value.int .i64 x).toArray 3)) := fun u => by
    have := run_makeSlice (P := Tryz.prog) u 25 3 i0 _ Tryz.underlying25 hi hz0 .i64 .i64 n n (by omega) (Int.le_refl _) (by rw [hz1]; omega) (by rw [hz2]; omega) (by omega)
    rw [← made_map' (fun x => Value.int .i64 x)]
    simpa [hz1, Value.cells] using this
  have g1 : ¬ (n : Int) < 1 := by omega
  have g2 : ¬ (8 : Int) < n := by omega
  go_enter Tryz.func11, Tryz.ntmps11
  go_wp2_with fail
  refine bodyPost_ret (v := .tuple #[.agg #[.slice (some ⟨w.heap.size + 1, 0, none⟩) 1 1, .slice none 0 0, .slice (some ⟨w.heap.size + 1 + 1, 0, none⟩) n n], .int .i64 0]) (by unfold results; simp only [Tryz.results11]; go_simp) rfl ⟨_, _, _, rfl, bel _ _, ?_, ?_, [⟨1, true, .slice none 0 0, { data := #[] }, rfl⟩], ?_, rfl, ?_⟩
  · exact ⟨none, 0, rfl, by simp [newSt], fun h => absurd h (by simp [newSt])⟩
  · have hb3 : Blk (((w.alloc (.cells #[.slice (some ⟨w.heap.size + 1, 0, none⟩) 1 1, .slice none 0 0, .slice (some ⟨w.heap.size + 1 + 1, 0, none⟩) n n] 27)).alloc (.cells #[.int .i64 1, .bool true, .slice none 0 0, .string { data := #[] }] 65)).alloc (.cells (Array.replicate n (.int .i64 0)) 3)) (w.heap.size + 1 + 1) (Array.replicate n (.int .i64 0)) 3 := Blk.new_i ((w.alloc (.cells #[.slice (some ⟨w.heap.size + 1, 0, none⟩) 1 1, .slice none 0 0, .slice (some ⟨w.heap.size + 1 + 1, 0, none⟩) n n] 27)).alloc (.cells #[.int .i64 1, .bool true, .slice none 0 0, .string { data := #[] }] 65)) _ _ _
    have := RowAt.of_blk1 (b := w.heap.size + 1 + 1) (t := 3) (List.replicate n (0 : Int)) n (by simpa using hb3) (by rw [List.length_replicate]; unfold maxLen; omega)
    rw [List.length_replicate] at this
    exact this
  · refine ⟨_, _, rfl, by unfold maxLen; simp, fun _ => ⟨w.heap.size + 1, 0, rfl, by simp, fun q cs hq t u hu => ?_⟩⟩
    rcases q with _ | q
    · simp only [List.map_cons, List.map_nil, List.getElem?_cons_zero, Option.some.injEq] at hq
      subst hq
      have hb : Blk ((((w.alloc (.cells #[.slice (some ⟨w.heap.size + 1, 0, none⟩) 1 1, .slice none 0 0, .slice (some ⟨w.heap.size + 1 + 1, 0, none⟩) n n] 27)).alloc (.cells #[.int .i64 1, .bool true, .slice none 0 0, .string { data := #[] }] 65))).alloc (.cells ((List.replicate n (0 : Int)).map fun x => Value.int .i64 x).toArray 3)) (w.heap.size + 1) #[.int .i64 1, .bool true, .slice none 0 0, .string { data := #[] }] 65 := (Blk.new_i (w.alloc (.cells #[.slice (some ⟨w.heap.size + 1, 0, none⟩) 1 1, .slice none 0 0, .slice (some ⟨w.heap.size + 1 + 1, 0, none⟩) n n] 27)) _ _ _).alloc _
      have := (hb.cell t).trans (by simpa [IRec.cells] using hu)
      simpa using this
    · simp at hq
  · intro q r x hr hx
    rcases q with _ | q
    · cases hr
      cases hx
      exact ⟨rfl, rfl, rfl, ⟨none, 0, rfl, by simp, fun h => absurd h (by simp)⟩⟩
    · simp at hr
end Go.Proofs.YtjkenolgkkknaaaGreatDoor
namespace Go.Proofs
open Go.Shelf
def Tryz.lays169_ren : Go.Shelf.Ren := ⟨fun | 169 => 88 | n => n, fun | 70 => 120 | 9 => 9 | 0 => 0 | 72 => 122 | 37 => 43 | 127 => 176 | 3 => 3 | 5 => 5 | n => n, fun | n => n⟩
theorem Tryz.lays169 : Go.Proofs.Lays.n169 Tryz.prog Tryz.lays169_ren := {
  mixed := by kernel_rfl
  f169 := Tryz.func88.trans (congrArg some (by kernel_rfl))
  t0 := Tryz.underlying0
  a0 := Tryz.isAgg0
  z0 := Tryz.sizeOf0
  v0 := Tryz.zeroValue0
  t3 := Tryz.underlying3
  a3 := Tryz.isAgg3
  z3 := Tryz.sizeOf3
  v3 := Tryz.zeroValue3
  t9 := Tryz.underlying9
  a9 := Tryz.isAgg9
  z9 := Tryz.sizeOf9
  v9 := Tryz.zeroValue9
  t37 := Tryz.underlying43
  a37 := Tryz.isAgg43
  z37 := Tryz.sizeOf43
  v37 := Tryz.zeroValue43
  t70 := Tryz.underlying120
  a70 := Tryz.isAgg120
  z70 := Tryz.sizeOf120
  v70 := Tryz.zeroValue120
  t72 := Tryz.underlying122
  a72 := Tryz.isAgg122
  z72 := Tryz.sizeOf122
  v72 := Tryz.zeroValue122
  t127 := Tryz.underlying176
  a127 := Tryz.isAgg176
  z127 := Tryz.sizeOf176
  v127 := Tryz.zeroValue176 }
theorem Tryz.Builder_Extra_169 : Builder.Extra Tryz.prog Tryz.lays169_ren := {
  sizeBuilder := by kernel_rfl
  liesBuilder := by kernel_rfl
  t5 := Tryz.underlying5
  a5 := Tryz.isAgg5
  z5 := Tryz.sizeOf5
  v5 := Tryz.zeroValue5
  infoByte := by kernel_rfl
  cellsByte := by kernel_rfl
  sizeByte := by kernel_rfl
  neB5 := by decide }
open Go.RowKit in
theorem Tryz.Builder_String_any (B b : Nat) (l : List UInt8) (w : World) (h : Lib.IsBuilder 122 5 B b (Lib.byteCells l) w) (hBw : B ≤ w.heap.size) :
    Calls Tryz.prog 88 #[.pointer (some ⟨b, 0, none⟩)] w fun e w' => e = .returned (.string ⟨l.toArray⟩) ∧ Below B w w' := Any.Builder_String_any Tryz.lays169 Tryz.Builder_Extra_169 B b l w h hBw
def Tryz.lays156_ren : Go.Shelf.Ren := ⟨fun | 156 => 133 | 165 => 162 | 166 => 87 | 169 => 88 | 240 => 135 | 241 => 175 | 276 => 164 | 277 => 185 | n => n, fun | 31 => 44 | 9 => 9 | 3 => 3 | 4 => 4 | 0 => 0 | 20 => 20 | 72 => 122 | 76 => 130 | 70 => 120 | 37 => 43 | 75 => 128 | 127 => 176 | 164 => 202 | 5 => 5 | 80 => 132 | n => n, fun | n => n⟩
theorem Tryz.lays156 : Go.Proofs.Lays.n156 Tryz.prog Tryz.lays156_ren := {
  mixed := by kernel_rfl
  f156 := Tryz.func133.trans (congrArg some (by kernel_rfl))
  f165 := Tryz.func162.trans (congrArg some (by kernel_rfl))
  f166 := Tryz.func87.trans (congrArg some (by kernel_rfl))
  f169 := Tryz.func88.trans (congrArg some (by kernel_rfl))
  f240 := Tryz.func135.trans (congrArg some (by kernel_rfl))
  f241 := Tryz.func175.trans (congrArg some (by kernel_rfl))
  f276 := Tryz.func164.trans (congrArg some (by kernel_rfl))
  f277 := Tryz.func185.trans (congrArg some (by kernel_rfl))
  t0 := Tryz.underlying0
  a0 := Tryz.isAgg0
  z0 := Tryz.sizeOf0
  v0 := Tryz.zeroValue0
  t3 := Tryz.underlying3
  a3 := Tryz.isAgg3
  z3 := Tryz.sizeOf3
  v3 := Tryz.zeroValue3
  t4 := Tryz.underlying4
  a4 := Tryz.isAgg4
  z4 := Tryz.sizeOf4
  v4 := Tryz.zeroValue4
  t9 := Tryz.underlying9
  a9 := Tryz.isAgg9
  z9 := Tryz.sizeOf9
  v9 := Tryz.zeroValue9
  t20 := Tryz.underlying20
  a20 := Tryz.isAgg20
  z20 := Tryz.sizeOf20
  v20 := Tryz.zeroValue20
  t31 := Tryz.underlying44
  a31 := Tryz.isAgg44
  z31 := Tryz.sizeOf44
  v31 := Tryz.zeroValue44
  t37 := Tryz.underlying43
  a37 := Tryz.isAgg43
  z37 := Tryz.sizeOf43
  v37 := Tryz.zeroValue43
  t70 := Tryz.underlying120
  a70 := Tryz.isAgg120
  z70 := Tryz.sizeOf120
  v70 := Tryz.zeroValue120
  t72 := Tryz.underlying122
  a72 := Tryz.isAgg122
  z72 := Tryz.sizeOf122
  v72 := Tryz.zeroValue122
  t75 := Tryz.underlying128
  a75 := Tryz.isAgg128
  z75 := Tryz.sizeOf128
  v75 := Tryz.zeroValue128
  t76 := Tryz.underlying130
  a76 := Tryz.isAgg130
  z76 := Tryz.sizeOf130
  v76 := Tryz.zeroValue130
  t127 := Tryz.underlying176
  a127 := Tryz.isAgg176
  z127 := Tryz.sizeOf176
  v127 := Tryz.zeroValue176
  t164 := Tryz.underlying202
  a164 := Tryz.isAgg202
  z164 := Tryz.sizeOf202
  v164 := Tryz.zeroValue202 }
theorem Tryz.Builder_Extra_156 : Builder.Extra Tryz.prog Tryz.lays156_ren := {
  sizeBuilder := by kernel_rfl
  liesBuilder := by kernel_rfl
  t5 := Tryz.underlying5
  a5 := Tryz.isAgg5
  z5 := Tryz.sizeOf5
  v5 := Tryz.zeroValue5
  infoByte := by kernel_rfl
  cellsByte := by kernel_rfl
  sizeByte := by kernel_rfl
  neB5 := by decide }
open Go.RowKit in
theorem Tryz.strings_Join (bk o c : Nat) (xs : List ByteArray) (sep : ByteArray) (w : World) (hcells : ∀ (j : Nat) x, xs[j]? = some x → w.cell? ⟨bk, o + j, none⟩ = some (.string x)) (hbk : bk < w.heap.size) (hN : xs.length ≤ 140737488355328) (hcap : xs.length ≤ c) (hlen : (Lib.join (xs.map (·.data.toList)) sep.data.toList).length ≤ 140737488355328) :
    Calls Tryz.prog 133 #[.slice (some ⟨bk, o, none⟩) xs.length c, .string sep] w fun e w' => e = .returned (.string ⟨(Lib.join (xs.map (·.data.toList)) sep.data.toList).toArray⟩) ∧ Below w.heap.size w w' := Any.strings_Join Tryz.lays156 Tryz.Builder_Extra_156 bk o c xs sep w hcells hbk hN hcap hlen
def Tryz.laysM171_ren : Go.Shelf.Ren := ⟨fun | 171 => 84 | 243 => 134 | 246 => 163 | 283 => 176 | 284 => 177 | 285 => 178 | 286 => 179 | 129 => 187 | 317 => 186 | 318 => 188 | 319 => 189 | 320 => 190 | 337 => 193 | 338 => 194 | n => n, fun | 3 => 3 | 9 => 9 | 2 => 2 | 4 => 4 | 171 => 209 | 0 => 0 | 53 => 101 | 37 => 43 | 5 => 5 | 173 => 212 | 212 => 219 | 51 => 214 | 20 => 20 | 213 => 220 | 46 => 39 | 232 => 224 | 233 => 225 | n => n, fun | 17 => 1 | 18 => 2 | 19 => 3 | n => n⟩
theorem Tryz.laysM171 : Go.Proofs.LaysM.n171 Tryz.prog Tryz.laysM171_ren := {
  mixed := by kernel_rfl
  f129 := Tryz.func187.trans (congrArg some (by kernel_rfl))
  f171 := Tryz.func84.trans (congrArg some (by kernel_rfl))
  f243 := Tryz.func134.trans (congrArg some (by kernel_rfl))
  f246 := Tryz.func163.trans (congrArg some (by kernel_rfl))
  f283 := Tryz.func176.trans (congrArg some (by kernel_rfl))
  f284 := Tryz.func177.trans (congrArg some (by kernel_rfl))
  f285 := Tryz.func178.trans (congrArg some (by kernel_rfl))
  f286 := Tryz.func179.trans (congrArg some (by kernel_rfl))
  f317 := Tryz.func186.trans (congrArg some (by kernel_rfl))
  f318 := Tryz.func188.trans (congrArg some (by kernel_rfl))
  f319 := Tryz.func189.trans (congrArg some (by kernel_rfl))
  f320 := Tryz.func190.trans (congrArg some (by kernel_rfl))
  f337 := Tryz.func193.trans (congrArg some (by kernel_rfl))
  f338 := Tryz.func194.trans (congrArg some (by kernel_rfl))
  t0 := Tryz.underlying0
  a0 := Tryz.isAgg0
  z0 := Tryz.sizeOf0
  v0 := Tryz.zeroValue0
  t2 := Tryz.underlying2
  a2 := Tryz.isAgg2
  z2 := Tryz.sizeOf2
  v2 := Tryz.zeroValue2
  t3 := Tryz.underlying3
  a3 := Tryz.isAgg3
  z3 := Tryz.sizeOf3
  v3 := Tryz.zeroValue3
  t4 := Tryz.underlying4
  a4 := Tryz.isAgg4
  z4 := Tryz.sizeOf4
  v4 := Tryz.zeroValue4
  t5 := Tryz.underlying5
  a5 := Tryz.isAgg5
  z5 := Tryz.sizeOf5
  v5 := Tryz.zeroValue5
  t9 := Tryz.underlying9
  a9 := Tryz.isAgg9
  z9 := Tryz.sizeOf9
  v9 := Tryz.zeroValue9
  t20 := Tryz.underlying20
  a20 := Tryz.isAgg20
  z20 := Tryz.sizeOf20
  v20 := Tryz.zeroValue20
  t37 := Tryz.underlying43
  a37 := Tryz.isAgg43
  z37 := Tryz.sizeOf43
  v37 := Tryz.zeroValue43
  t46 := Tryz.underlying39
  a46 := Tryz.isAgg39
  z46 := Tryz.sizeOf39
  v46 := Tryz.zeroValue39
  t51 := Tryz.underlying214
  a51 := Tryz.isAgg214
  z51 := Tryz.sizeOf214
  v51 := Tryz.zeroValue214
  t53 := Tryz.underlying101
  a53 := Tryz.isAgg101
  z53 := Tryz.sizeOf101
  v53 := Tryz.zeroValue101
  t171 := Tryz.underlying209
  a171 := Tryz.isAgg209
  z171 := Tryz.sizeOf209
  v171 := Tryz.zeroValue209
  t173 := Tryz.underlying212
  a173 := Tryz.isAgg212
  z173 := Tryz.sizeOf212
  v173 := Tryz.zeroValue212
  t212 := Tryz.underlying219
  a212 := Tryz.isAgg219
  z212 := Tryz.sizeOf219
  v212 := Tryz.zeroValue219
  t213 := Tryz.underlying220
  a213 := Tryz.isAgg220
  z213 := Tryz.sizeOf220
  t232 := Tryz.underlying224
  a232 := Tryz.isAgg224
  z232 := Tryz.sizeOf224
  v232 := Tryz.zeroValue224
  t233 := Tryz.underlying225
  a233 := Tryz.isAgg225
  z233 := Tryz.sizeOf225
  v233 := Tryz.zeroValue225
  g17 := by kernel_rfl
  g18 := by kernel_rfl
  g19 := by kernel_rfl
  i0 := by kernel_rfl
  i2 := by kernel_rfl
  i3 := by kernel_rfl
  i4 := by kernel_rfl
  i5 := by kernel_rfl
  i9 := by kernel_rfl
  i20 := by kernel_rfl
  i37 := by kernel_rfl
  i46 := by kernel_rfl
  i51 := by kernel_rfl
  i53 := by kernel_rfl
  i171 := by kernel_rfl
  i173 := by kernel_rfl
  i212 := by kernel_rfl
  i232 := by kernel_rfl
  i233 := by kernel_rfl
  m17 := by kernel_rfl
  m18 := by kernel_rfl
  m19 := by kernel_rfl }
open Go.RowKit Go.Sort Go.Lib in
theorem Tryz.strconv_Itoa (n : Int) (h0 : -9223372036854775808 ≤ n) (h1 : n ≤ 9223372036854775807) (w : World) (htab : Lib.TabIs Tryz.prog w "internal/strconv.uint64pow10" .u64 Lib.pow10Tab) :
    Calls Tryz.prog 84 #[.int .i64 n] w fun e w' => e = .returned (.string ⟨(Lib.itoa n).toArray⟩) ∧ ∃ k os, w' = grow (w.drewN k) os := Any.strconv_Itoa Tryz.laysM171 n h0 h1 w htab
def Tryz.lays240_ren : Go.Shelf.Ren := ⟨fun | 240 => 135 | 276 => 164 | 166 => 87 | 167 => 86 | n => n, fun | 31 => 44 | 9 => 9 | 3 => 3 | 4 => 4 | 0 => 0 | 20 => 20 | 72 => 122 | 76 => 130 | 70 => 120 | 37 => 43 | 75 => 128 | 127 => 176 | 164 => 202 | 5 => 5 | 80 => 132 | n => n, fun | n => n⟩
theorem Tryz.lays167 : Go.Proofs.Lays.n167 Tryz.prog Tryz.lays240_ren := {
  mixed := by kernel_rfl
  f167 := Tryz.func86.trans (congrArg some (by kernel_rfl))
  f240 := Tryz.func135.trans (congrArg some (by kernel_rfl))
  f276 := Tryz.func164.trans (congrArg some (by kernel_rfl))
  t0 := Tryz.underlying0
  a0 := Tryz.isAgg0
  z0 := Tryz.sizeOf0
  v0 := Tryz.zeroValue0
  t4 := Tryz.underlying4
  a4 := Tryz.isAgg4
  z4 := Tryz.sizeOf4
  v4 := Tryz.zeroValue4
  t5 := Tryz.underlying5
  a5 := Tryz.isAgg5
  z5 := Tryz.sizeOf5
  v5 := Tryz.zeroValue5
  t9 := Tryz.underlying9
  a9 := Tryz.isAgg9
  z9 := Tryz.sizeOf9
  v9 := Tryz.zeroValue9
  t20 := Tryz.underlying20
  a20 := Tryz.isAgg20
  z20 := Tryz.sizeOf20
  v20 := Tryz.zeroValue20
  t37 := Tryz.underlying43
  a37 := Tryz.isAgg43
  z37 := Tryz.sizeOf43
  v37 := Tryz.zeroValue43
  t70 := Tryz.underlying120
  a70 := Tryz.isAgg120
  z70 := Tryz.sizeOf120
  v70 := Tryz.zeroValue120
  t72 := Tryz.underlying122
  a72 := Tryz.isAgg122
  z72 := Tryz.sizeOf122
  v72 := Tryz.zeroValue122
  t75 := Tryz.underlying128
  a75 := Tryz.isAgg128
  z75 := Tryz.sizeOf128
  v75 := Tryz.zeroValue128
  t164 := Tryz.underlying202
  a164 := Tryz.isAgg202
  z164 := Tryz.sizeOf202
  v164 := Tryz.zeroValue202 }
theorem Tryz.Builder_Extra_240 : Builder.Extra Tryz.prog Tryz.lays240_ren := {
  sizeBuilder := by kernel_rfl
  liesBuilder := by kernel_rfl
  t5 := Tryz.underlying5
  a5 := Tryz.isAgg5
  z5 := Tryz.sizeOf5
  v5 := Tryz.zeroValue5
  infoByte := by kernel_rfl
  cellsByte := by kernel_rfl
  sizeByte := by kernel_rfl
  neB5 := by decide }
open Go.RowKit in
theorem Tryz.Builder_WriteByte (B b : Nat) (bs : List Value) (c : Int) (w : World) (h : Lib.IsBuilder 122 5 B b bs w) (hlen : bs.length + 1 ≤ 140737488355328) (hBw : B ≤ w.heap.size) :
    Calls Tryz.prog 86 #[.pointer (some ⟨b, 0, none⟩), .int .u8 c] w fun e w' => e = .returned .nilIface ∧ (Lib.BuilderAt 122 5 B b (.pointer (some ⟨b, 0, none⟩)) (bs ++ [.int .u8 c]) w' ∧ Below B w w') := Any.Builder_WriteByte Tryz.lays167 Tryz.Builder_Extra_240 B b bs c w h hlen hBw
end Go.Proofs
namespace Go.Proofs.YtjkenolgkkknaaaGreatDoor
open Go.RowKit
/-- A writer at block b: what it writes of, the builder's own address, its bytes in a row that it owns. -/
def WrAt (B b : Nat) (sv p : Value) (bs : List Value) (w : World) : Prop := B ≤ b ∧ ∃ v, w.heap[b]? = some (.cells #[sv, p, v] 124 (0, 0)) ∧ w.ownsRow B 5 1 v bs.length bs
def IsWr (B b : Nat) (sv : Value) (bs : List Value) (w : World) : Prop := WrAt B b sv (.pointer none) bs w ∨ WrAt B b sv (.pointer (some ⟨b, 1, none⟩)) bs w
theorem WrAt.lt {B b : Nat} {sv p : Value} {bs : List Value} {w : World} (h : WrAt B b sv p bs w) : b < w.heap.size := by
  obtain ⟨_, v, hb, _⟩ := h
  rcases Nat.lt_or_ge b w.heap.size with h' | h'
  · exact h'
  · simp [Array.getElem?_eq_none h'] at hb
theorem WrAt.used {B b : Nat} {sv p : Value} {bs : List Value} {w : World} (h : WrAt B b sv p bs w) (q : Value) : WrAt B b sv q bs (w.setCell ⟨b, 1, none⟩ q) := by
  obtain ⟨hB, v, hb, hown⟩ := h
  refine ⟨hB, v, ?_, ?_⟩
  · simp [World.setCell, Array.getElem?_modify, hb]
  · exact hown.kept (row := some b) ⟨rfl, rfl, rfl, by simp [World.setCell], fun k _ hk => Below.heap_setCell _ _ _ _ (fun e => hk (by simp [e]))⟩ (Or.inr (Lib.ownBlock_ne hown hb (by decide)))
theorem WrAt.put {B b : Nat} {sv p v v' : Value} {bs' : List Value} {w : World} (hB : B ≤ b) (hb : w.heap[b]? = some (.cells #[sv, p, v] 124 (0, 0))) (hown : w.ownsRow B 5 1 v' bs'.length bs') : WrAt B b sv p bs' (w.setCell ⟨b, 2, none⟩ v') := by
  refine ⟨hB, v', ?_, ?_⟩
  · simp [World.setCell, Array.getElem?_modify, hb]
  · exact hown.kept (row := some b) ⟨rfl, rfl, rfl, by simp [World.setCell], fun k _ hk => Below.heap_setCell _ _ _ _ (fun e => hk (by simp [e]))⟩ (Or.inr (Lib.ownBlock_ne hown hb (by decide)))
set_option maxRecDepth 100000 in
set_option maxHeartbeats 1000000 in
theorem wr_used (B b : Nat) (sv : Value) (bs : List Value) (w : World) (h : WrAt B b sv (.pointer (some ⟨b, 1, none⟩)) bs w) :
    Calls Tryz.prog 135 #[.pointer (some ⟨b, 1, none⟩)] w fun e w' => e = .returned (.tuple #[]) ∧ w' = w := by
  obtain ⟨_, v, hb, _⟩ := h
  have h0 : w.cell? ⟨b, 1, none⟩ = some (.pointer (some ⟨b, 1, none⟩)) := by rw [Lib.cell_of_heap hb]; rfl
  obtain ⟨j, hj, _⟩ := Option.map_eq_some_iff.1 Tryz.Builder_Extra_240.sizeBuilder
  go_enter Tryz.func135, Tryz.ntmps135
  go_wp2
  rw [Lib.run_neq_ptr_same w _ Tryz.underlying120 hj]
  go_wp2
  go_end0
  exact ⟨rfl, rfl⟩
set_option maxRecDepth 100000 in
set_option maxHeartbeats 1000000 in
theorem wr_fresh (B b : Nat) (sv : Value) (bs : List Value) (w : World) (h : WrAt B b sv (.pointer none) bs w) :
    Calls Tryz.prog 135 #[.pointer (some ⟨b, 1, none⟩)] w fun e w' => e = .returned (.tuple #[]) ∧ w' = w.setCell ⟨b, 1, none⟩ (.pointer (some ⟨b, 1, none⟩)) := by
  obtain ⟨_, v, hb, _⟩ := h
  have h0 : w.cell? ⟨b, 1, none⟩ = some (.pointer none) := by rw [Lib.cell_of_heap hb]; rfl
  have hsh : w.shape? b = some (124, 3) := by simp [World.shape?, hb]
  have hfz : w.frozen? ⟨b, 1, none⟩ = false := Lib.frozen_of_heap hb 1
  obtain ⟨j, hj, hjs⟩ := Option.map_eq_some_iff.1 Tryz.Builder_Extra_240.sizeBuilder
  go_enter Tryz.func135, Tryz.ntmps135
  go_wp2
  rw [Lib.run_to_unsafe w ⟨b, 1, none⟩ Tryz.underlying120 Tryz.underlying202 hj (by rw [hjs]; decide) hsh (by show 1 < 3; omega)]
  simp only [Result.andThen]
  rw [Oper.upon_value]
  go_wp2
  rw [run_callFunc_extern Tryz.func164 (by kernel_rfl) (by kernel_rfl) (by kernel_rfl) (e := Extern.AbiNoEscape.same) (by kernel_rfl)]
  rw [Lib.run_noEscape]
  simp only [Result.andThen]
  rw [Oper.upon_value]
  go_wp2
  rw [Lib.run_from_unsafe w ⟨b, 1, none⟩ Tryz.underlying202 Tryz.underlying120 hj hsh (by kernel_rfl)]
  simp only [Result.andThen]
  rw [Oper.upon_value]
  go_wp2
  go_end0
  exact ⟨rfl, rfl⟩
theorem wr_check (B b : Nat) (sv : Value) (bs : List Value) (w : World) (h : IsWr B b sv bs w) :
    Calls Tryz.prog 135 #[.pointer (some ⟨b, 1, none⟩)] w fun e w' => e = .returned (.tuple #[]) ∧ WrAt B b sv (.pointer (some ⟨b, 1, none⟩)) bs w' ∧ Below B w w' := by
  rcases h with h | h
  · refine (wr_fresh B b sv bs w h).mono ?_
    rintro e w' ⟨rfl, rfl⟩
    exact ⟨rfl, h.used _, (Below.refl B w).setCell (p := ⟨b, 1, none⟩) h.1 _⟩
  · refine (wr_used B b sv bs w h).mono ?_
    rintro e w' ⟨rfl, rfl⟩
    exact ⟨rfl, h, Below.refl B _⟩
set_option maxRecDepth 100000 in
set_option maxHeartbeats 2000000 in
theorem wr_str (B b : Nat) (sv : Value) (bs : List Value) (s : ByteArray) (w : World) (h : IsWr B b sv bs w) (hlen : bs.length + s.size ≤ 140737488355328) (hBw : B ≤ w.heap.size) :
    Calls Tryz.prog 87 #[.pointer (some ⟨b, 1, none⟩), .string s] w fun e w' => e = .returned (.tuple #[.int .i64 s.size, .nilIface]) ∧ WrAt B b sv (.pointer (some ⟨b, 1, none⟩)) (bs ++ Lib.strCells s) w' ∧ Below B w w' := by
  obtain ⟨i0, hi, hz0, hz1, hz2⟩ := info_parts Tryz.Builder_Extra_240.infoByte
  go_enter Tryz.func87, Tryz.ntmps87
  go_wp2_with (go_at_call 135; refine (wr_check B b sv bs _ h).mono ?_)
  rintro e w1 ⟨rfl, h1, hb1⟩
  obtain ⟨hB, v, hbk, hown⟩ := h1
  have hne := Lib.ownBlock_ne hown hbk (by decide)
  have c0 : w1.cell? ⟨b, 1, none⟩ = some (.pointer (some ⟨b, 1, none⟩)) := by rw [Lib.cell_of_heap hbk]; rfl
  have c1 : w1.cell? ⟨b, 2, none⟩ = some v := by rw [Lib.cell_of_heap hbk]; rfl
  go_wp2_with (at_builtin; refine Lib.wpList_append_own_string _ rfl _ _ 43 9 rfl B 5 i0 Tryz.underlying43 Tryz.underlying9 hi hz0 hz1 hz2 _ _ _ rfl hown s rfl ?c3 ?c4 ?c5 ?_)
  case c3 => unfold maxLen; omega
  case c4 => omega
  case c5 => have := hb1.size; omega
  intro v' w2 hown' hgrow _
  have hlt : b < w1.heap.size := by
    rcases Nat.lt_or_ge b w1.heap.size with h' | h'
    · exact h'
    · simp [Array.getElem?_eq_none h'] at hbk
  have hb2 : w2.heap[b]? = some (.cells #[sv, .pointer (some ⟨b, 1, none⟩), v] 124 (0, 0)) := by
    rw [hgrow.block b hlt (fun e => hne e.symm)]
    exact hbk
  have d0 : w2.cell? ⟨b, 1, none⟩ = some (.pointer (some ⟨b, 1, none⟩)) := by rw [Lib.cell_of_heap hb2]; rfl
  have d1 : w2.cell? ⟨b, 2, none⟩ = some v := by rw [Lib.cell_of_heap hb2]; rfl
  have f1 : w2.frozen? ⟨b, 2, none⟩ = false := Lib.frozen_of_heap hb2 2
  obtain ⟨ao, n', cap, rfl⟩ : ∃ ao n' cap, v' = .slice ao n' cap := by
    rcases hown'.2 with ⟨hv, _⟩ | ⟨g, cap, cur, hv, _⟩
    · exact ⟨_, _, _, hv⟩
    · exact ⟨_, _, _, hv⟩
  go_wp2
  go_ret2
  refine ⟨rfl, ?_, ?_⟩
  · exact WrAt.put hB hb2 (bs' := bs ++ Lib.strCells s) (by simpa [Lib.strCells_length] using hown')
  · exact (hb1.grown hgrow (by have := hb1.size; omega) (fun k hk => (hown.lt k hk).1)).setCell (p := ⟨b, 2, none⟩) hB _
set_option maxRecDepth 100000 in
set_option maxHeartbeats 2000000 in
theorem wr_byte (B b : Nat) (sv : Value) (bs : List Value) (c : Int) (w : World) (h : IsWr B b sv bs w) (hlen : bs.length + 1 ≤ 140737488355328) (hBw : B ≤ w.heap.size) :
    Calls Tryz.prog 86 #[.pointer (some ⟨b, 1, none⟩), .int .u8 c] w fun e w' => e = .returned .nilIface ∧ WrAt B b sv (.pointer (some ⟨b, 1, none⟩)) (bs ++ [.int .u8 c]) w' ∧ Below B w w' := by
  obtain ⟨i0, hi, hz0, hz1, hz2⟩ := info_parts Tryz.Builder_Extra_240.infoByte
  go_enter Tryz.func86, Tryz.ntmps86
  go_wp2_with (go_at_call 135; refine (wr_check B b sv bs _ h).mono ?_)
  rintro e w1 ⟨rfl, h1, hb1⟩
  obtain ⟨hB, v, hbk, hown⟩ := h1
  have hne := Lib.ownBlock_ne hown hbk (by decide)
  have c0 : w1.cell? ⟨b, 1, none⟩ = some (.pointer (some ⟨b, 1, none⟩)) := by rw [Lib.cell_of_heap hbk]; rfl
  have c1 : w1.cell? ⟨b, 2, none⟩ = some v := by rw [Lib.cell_of_heap hbk]; rfl
  go_wp2_with (at_builtin; refine wpList_append_own _ rfl _ _ 43 rfl B 5 i0 (.int .u8 0) 1 1 Tryz.underlying43 hi hz0 hz1 hz2 rfl (by decide) _ _ _ rfl (hown.alloc _) ⟨w1.heap.size, 0, none⟩ 1 1 [.int .u8 c] rfl rfl ?c1 ?c2 ?c3 ?c4 ?c5 ?_)
  case c1 =>
    intro j u hj
    match j, hj with
    | 0, hj => simp at hj; subst hj; simp [Addr.add]
  case c2 => intro u hu; simp at hu; subst hu; rfl
  case c3 => unfold maxLen; omega
  case c4 => omega
  case c5 => have := hb1.size; simp; omega
  intro v' w2 hown' hgrow _
  have hlt : b < w1.heap.size := by
    rcases Nat.lt_or_ge b w1.heap.size with h' | h'
    · exact h'
    · simp [Array.getElem?_eq_none h'] at hbk
  have hb2 : w2.heap[b]? = some (.cells #[sv, .pointer (some ⟨b, 1, none⟩), v] 124 (0, 0)) := by
    rw [hgrow.block b (by simp; omega) (fun e => hne e.symm), Lib.alloc_old w1 _ b hlt]
    exact hbk
  have d0 : w2.cell? ⟨b, 1, none⟩ = some (.pointer (some ⟨b, 1, none⟩)) := by rw [Lib.cell_of_heap hb2]; rfl
  have d1 : w2.cell? ⟨b, 2, none⟩ = some v := by rw [Lib.cell_of_heap hb2]; rfl
  have f1 : w2.frozen? ⟨b, 2, none⟩ = false := Lib.frozen_of_heap hb2 2
  obtain ⟨g, cap, rfl⟩ : ∃ g cap, v' = .slice (some ⟨g, 0, none⟩) (bs.length + 1) cap := by
    rcases hown'.2 with ⟨_, h0⟩ | ⟨g, cap, cur, hv, _⟩
    · omega
    · exact ⟨g, cap, hv⟩
  go_wp2
  go_ret
  refine ⟨rfl, ?_, ?_⟩
  · exact WrAt.put hB hb2 (bs' := bs ++ [.int .u8 c]) (by simpa using hown')
  · exact ((hb1.alloc (by have := hb1.size; omega) _).grown hgrow (by have := hb1.size; simp; omega) (fun k hk => (hown.lt k hk).1)).setCell (p := ⟨b, 2, none⟩) hB _
set_option maxRecDepth 100000 in
set_option maxHeartbeats 2000000 in
theorem wr_text (B b : Nat) (sv : Value) (l : List UInt8) (w : World) (h : IsWr B b sv (Lib.byteCells l) w) (h0 : l ≠ []) :
    Calls Tryz.prog 88 #[.pointer (some ⟨b, 1, none⟩)] w fun e w' => e = .returned (.string ⟨l.toArray⟩) ∧ Below B w w' := by
  obtain ⟨p, hB, v, hbk, hown⟩ : ∃ p, WrAt B b sv p (Lib.byteCells l) w := by
    rcases h with h | h
    · exact ⟨_, h⟩
    · exact ⟨_, h⟩
  have hl0 : l.length ≠ 0 := by simpa using h0
  rw [Lib.byteCells_length] at hown
  obtain ⟨g, cap, cur, rfl, hbg, hg, hnc, hcm, hcs, htake⟩ : ∃ g cap cur, v = .slice (some ⟨g, 0, none⟩) l.length cap ∧ B ≤ g ∧ w.heap[g]? = some (.cells cur 5 (0, 0)) ∧ l.length ≤ cap ∧ cap ≤ maxLen ∧ cur.size = cap * 1 ∧ cur.toList.take (l.length * 1) = Lib.byteCells l := by
    rcases hown.2 with ⟨_, hz⟩ | ⟨g, cap, cur, hv, r⟩
    · exact absurd hz hl0
    · exact ⟨g, cap, cur, hv, r⟩
  have c1 : w.drew.cell? ⟨b, 2, none⟩ = some (.slice (some ⟨g, 0, none⟩) l.length cap) := by
    have : w.drew.heap[b]? = some (.cells #[sv, p, .slice (some ⟨g, 0, none⟩) l.length cap] 124 (0, 0)) := hbk
    rw [Lib.cell_of_heap this]; rfl
  have hSD : (Builtin.unsafeSliceData_ #[43] 176 #[.slice (some ⟨g, 0, none⟩) l.length cap]).run Tryz.prog w.drew = .ok (.pointer (some ⟨g, 0, none⟩)) w.drew :=
    Lib.run_unsafeSliceData_row _ _ _ _ _ _ (by omega)
  have hUS : (Builtin.unsafeString_ #[176, 3] 9 #[.pointer (some ⟨g, 0, none⟩), .int .i64 l.length]).run Tryz.prog w.drew = .ok (.string ⟨l.toArray⟩) (w.drew.freeze ⟨g, 0, none⟩ l.length) := by
    refine Lib.run_unsafeString_row w.drew 176 3 9 5 Tryz.underlying176 Tryz.Builder_Extra_240.cellsByte g cur.size (by have hg' : w.drew.heap[g]? = some (.cells cur 5 (0, 0)) := hg; simp [World.shape?, hg']) l h0 (by omega) (by unfold maxLen at hcm; omega) ?_
    intro j x hx
    have := hown.cells (g := g) rfl j (.int .u8 x.toNat) (by simp [Lib.byteCells, hx])
    exact this
  go_enter Tryz.func88, Tryz.ntmps88
  go_wp2
  go_region
  all_goals (go_wp2; go_ret; exact ⟨rfl, Lib.below_freeze (Below.drew (Below.refl B w)) (p := ⟨g, 0, none⟩) hbg _⟩)
end Go.Proofs.YtjkenolgkkknaaaGreatDoor
namespace Go.Proofs.YtjkenolgkkknaaaGreatDoor
open Go.RowKit
def linkE (n : Int) (x : PIn) : List PEnt → Nat
  | [] => 0
  | e :: r => (if (x.dir && (e.num == n)) = true then 1 else 0) + linkE n x r
def linkI (n : Int) : List PIn → Nat
  | [] => 0
  | x :: r => linkE n x x.ents + linkI n r
def linksM (S : PSt) (n : Int) : Nat := linkI n S.ins
theorem linkE_le (n : Int) (x : PIn) : ∀ es, linkE n x es ≤ es.length
  | [] => Nat.le_refl _
  | e :: r => by
    have := linkE_le n x r
    unfold linkE
    split <;> simp <;> omega
theorem linkI_le (n : Int) : ∀ xs : List PIn, (∀ x ∈ xs, x.ents.length ≤ 1000000000) → linkI n xs ≤ xs.length * 1000000000
  | [], _ => Nat.le_refl _
  | x :: r, h => by
    have h1 := linkI_le n r (fun y hy => h y (List.mem_cons_of_mem _ hy))
    have h2 := linkE_le n x x.ents
    have h3 := h x List.mem_cons_self
    unfold linkI
    simp only [List.length_cons]
    omega
theorem linksM_le {S : PSt} (h : S.wf) (n : Int) : linksM S n ≤ 1000000000000000000 := by
  have h1 := linkI_le n S.ins (fun x hx => (h.2.2.2.1 x hx).2.1)
  have h2 := h.1
  have h3 : S.ins.length * 1000000000 ≤ 1000000000 * 1000000000 := Nat.mul_le_mul_right _ h2
  unfold linksM
  omega
theorem linkI_drop {n : Int} {xs : List PIn} {q : Nat} {z : PIn} (h : xs[q]? = some z) : linkI n (xs.drop q) = linkE n z z.ents + linkI n (xs.drop (q + 1)) := by rw [drop_at h]; rfl
theorem linkE_drop {n : Int} {x : PIn} {es : List PEnt} {q : Nat} {z : PEnt} (h : es[q]? = some z) : linkE n x (es.drop q) = (if (x.dir && (z.num == n)) = true then 1 else 0) + linkE n x (es.drop (q + 1)) := by rw [drop_at h]; rfl
set_option maxRecDepth 100000 in
set_option maxHeartbeats 4000000 in
theorem links82 (iv ov mv : Value) (S : PSt) (n : Int) (w : World) (h : StRead w iv ov mv S) (hwf : S.wf) :
    Calls Tryz.prog 82 #[.agg #[iv, ov, mv], .int .i64 n] w fun e w' => e = .returned (.int .i64 (linksM S n)) ∧ Below w.heap.size w w' := by
  have hoo := h.1.one
  have hmo := h.2.1.one
  obtain ⟨ai, capi, rfl, hati⟩ := h.ins_at2
  have HI := Lib.hid hati
  have hNl := linksM_le hwf n
  have hlin := hwf.1
  unfold linksM at *
  obtain ⟨N, hN⟩ : ∃ N, linkI n S.ins = N := ⟨_, rfl⟩
  rw [hN] at hNl ⊢
  have HN := Lib.hid hN
  have HW := Lib.hid hwf.2.2.2.1
  clear h hati hN hwf
  go_enter Tryz.func82, Tryz.ntmps82
  go_wp2_with fail
  go_loopw [5, 13] (fun vn vi wr => ∃ (q a : Nat), vi = .int .i64 q ∧ vn = .int .i64 a ∧ q ≤ S.ins.length ∧ a + linkI n (S.ins.drop q) = N ∧ Below w.heap.size w wr) (fun _ vi _ => (S.ins.length - intOf vi).toNat)
  case atStart => exact ⟨0, 0, rfl, rfl, by omega, by simpa using HN.out, bel _ _⟩
  case round =>
    obtain ⟨q, a, rfl, rfl, hq, hre, hb⟩ := hrel
    rename World => wo
    have iB : Bel w wo := ⟨hb⟩
    by_cases hlt : q < S.ins.length
    · obtain ⟨z, hz⟩ : ∃ z, S.ins[q]? = some z := ⟨_, List.getElem?_eq_getElem hlt⟩
      rw [linkI_drop hz] at hre
      obtain ⟨bi, off, ev1, rfl, iG0, ho1, hev, hcl⟩ := HI.out q z hz
      obtain ⟨iGr, y0, y1, y2, y3⟩ := hcl wo hb
      obtain ⟨ae, ce, rfl, hat⟩ := hev.at_
      rw [List.length_map] at y2
      have HE := Lib.hid hat
      have hzl := (HW.out z (List.mem_of_getElem? hz)).2.1
      have HR := Lib.hid hre
      clear hat hev hz hre hcl
      go_wp2_with fail
      go_loopw [5, 20] (fun vn vi w2 => ∃ (k a2 : Nat), vi = .int .i64 k ∧ vn = .int .i64 a2 ∧ k ≤ z.ents.length ∧ a2 + linkE n z (z.ents.drop k) = a + linkE n z z.ents ∧ Below wo.heap.size wo w2 ∧ Blk w2 wo.heap.size #[.int .i64 z.num, .bool z.dir, .slice ae z.ents.length ce, .string z.data] 65) (fun _ vi _ => (z.ents.length - intOf vi).toNat)
      case atStart => exact ⟨0, a, rfl, rfl, by omega, rfl, bel _ _, Blk.new _ _ _⟩
      case round =>
        obtain ⟨k, a2, rfl, rfl, hk, hre2, hb2, hblk⟩ := hrel
        have iB2 : Bel w wr := ⟨hb.trans (hb2.mono hb.size)⟩
        have iB3 : Bel wo wr := ⟨hb2⟩
        have z0 := hblk.cell 1
        have iK := hblk.lt
        have HK := Lib.hid hblk
        by_cases hlk : k < z.ents.length
        · obtain ⟨e, he⟩ : ∃ e, z.ents[k]? = some e := ⟨_, List.getElem?_eq_getElem hlk⟩
          rw [linkE_drop he] at hre2
          obtain ⟨be, offe, rfl, iE0, iE, hce⟩ := HE.out wr iB2.below k e.cells (by rw [List.getElem?_map, he]; rfl)
          have e0 := hce 0 _ rfl
          have e1 := hce 1 _ rfl
          rw [Nat.add_zero] at e0
          have ha2 : a2 + 1 ≤ 1000000000000000001 := by have := HR.out; omega
          have ew : wrap64 ((a2 : Int) + 1) = (a2 : Int) + 1 := by simp only [wrap64]; omega
          generalize hd : z.dir = dd at *
          generalize hg : (e.num == n) = gg at hre2
          have HR2 := Lib.hid hre2
          clear hre2 hce he hblk
          rcases dd with _ | _ <;> rcases gg with _ | _
          · go_wp2_with fail
            go_roundw
            case rel => exact ⟨k + 1, a2, by go_num, rfl, by omega, by have := HR2.out; simpa using this, bel _ _, (HK.out.alloc _)⟩
            case measure => simp [intOf]; omega
          · go_wp2_with fail
            go_roundw
            case rel => exact ⟨k + 1, a2, by go_num, rfl, by omega, by have := HR2.out; simpa using this, bel _ _, (HK.out.alloc _)⟩
            case measure => simp [intOf]; omega
          · go_wp2_with fail
            go_roundw
            case rel => exact ⟨k + 1, a2, by go_num, rfl, by omega, by have := HR2.out; simpa using this, bel _ _, (HK.out.alloc _)⟩
            case measure => simp [intOf]; omega
          · go_wp2_with fail
            go_roundw
            case rel => exact ⟨k + 1, a2 + 1, by go_num, by go_num, by omega, by have := HR2.out; simp at this; omega, bel _ _, (HK.out.alloc _)⟩
            case measure => simp [intOf]; omega
        · rw [List.drop_of_length_le (by omega)] at hre2
          clear hblk
          go_wp2_with fail
          go_roundw
          case rel => exact ⟨q + 1, a2, by go_num, rfl, by omega, by have := HR.out; have e : a2 + linkE n z [] = _ := hre2; simp only [linkE] at e; omega, iB2.below⟩
          case measure => simp [intOf]; omega
    · rw [List.drop_of_length_le (by omega)] at hre
      have e : a = N := by simpa [linkI] using hre
      clear hre
      subst e
      go_wp2_with fail
      go_ret
      exact ⟨rfl, bel _ _⟩
end Go.Proofs.YtjkenolgkkknaaaGreatDoor
namespace Go.Proofs.YtjkenolgkkknaaaGreatDoor
open Go.RowKit
set_option maxRecDepth 100000 in
theorem index173 (zs : List IRec) (v : Value) (l0 : Value) (p : IRec → Bool) (w : World) (h : RowAt w 4 v (zs.map IRec.cells)) (hlen : zs.length ≤ 1000000000)
    (hg : ∀ (z : IRec) (ww : World), z ∈ zs → Below w.heap.size w ww → Calls Tryz.prog 174 #[.agg #[.int .i64 z.num, .bool z.dir, z.ev, .string z.data], l0] ww fun e w' => e = .returned (.bool (p z)) ∧ Below ww.heap.size ww w') :
    Calls Tryz.prog 173 #[v, .func (.func 174) #[] #[l0]] w fun e w' => e = .returned (.int .i64 (idxM p zs)) ∧ Below w.heap.size w w' := by
  obtain ⟨a, cap, rfl, hat⟩ := h.at_
  rw [List.length_map]
  have HA := Lib.hid hat
  clear hat h
  unfold idxM
  obtain ⟨R, hR⟩ : ∃ R, idxFrom p zs 0 = R := ⟨_, rfl⟩
  rw [hR]
  have HR := Lib.hid hR
  clear hR
  go_enter Tryz.func173, Tryz.ntmps173
  go_wp2_with fail
  go_loopw [8] (fun i wr => ∃ (q : Nat), i = .int .i64 q ∧ q ≤ zs.length ∧ idxFrom p (zs.drop q) q = R ∧ Below w.heap.size w wr) (fun i _ => (zs.length - intOf i).toNat)
  case atStart => exact ⟨0, rfl, by omega, HR.out, bel _ _⟩
  case round =>
    obtain ⟨q, rfl, hq, hre, hb⟩ := hrel
    have iB : Bel w wr := ⟨hb⟩
    by_cases hlt : q < zs.length
    · obtain ⟨z, hz⟩ : ∃ z, zs[q]? = some z := ⟨_, List.getElem?_eq_getElem hlt⟩
      obtain ⟨b, off, rfl, iG0, iG, hc⟩ := HA.out wr hb q (IRec.cells z) (by rw [List.getElem?_map, hz]; rfl)
      have c0 := hc 0 _ rfl
      have c1 := hc 1 _ rfl
      have c2 := hc 2 _ rfl
      have c3 := hc 3 _ rfl
      rw [idxFrom_drop p zs q z hz] at hre
      have hcall : ∀ ww, Below w.heap.size w ww → Calls Tryz.prog 174 #[.agg #[.int .i64 z.num, .bool z.dir, z.ev, .string z.data], l0] ww fun e w' => e = .returned (.bool (p z)) ∧ Below ww.heap.size ww w' := fun ww hww => hg z ww (List.mem_of_getElem? hz) hww
      have HZ := Lib.hid (And.intro hz hre)
      clear hc hz hre hg
      rw [Nat.add_zero] at c0
      generalize hpz : p z = t at hcall HZ
      rcases t with _ | _
      · go_wp2_with (go_at_call 174; refine (hcall _ (bel _ _)).mono ?_; rintro e w' ⟨rfl, hb⟩; obtain ⟨p, rfl⟩ := hb.rest; clear hb)
        go_roundw
        case rel => exact ⟨q + 1, by go_num, by omega, by have := HZ.out.2; simpa using this, bel _ _⟩
        case measure => simp [intOf]; omega
      · have hv : R = q := by have := HZ.out.2; simpa using this.symm
        subst hv
        go_wp2_with (go_at_call 174; refine (hcall _ (bel _ _)).mono ?_; rintro e w' ⟨rfl, hb⟩; obtain ⟨p, rfl⟩ := hb.rest; clear hb)
        exact bodyPost_ret (v := .int .i64 q) (by simp [results, Tryz.results173, go_sem]) rfl ⟨rfl, bel _ _⟩
    · rw [idxFrom_end p zs q hlt] at hre
      subst hre
      clear hg
      go_wp2_with fail
      exact bodyPost_ret (v := .int .i64 (-1)) (by simp [results, Tryz.results173, go_sem]) rfl ⟨rfl, bel _ _⟩
set_option maxRecDepth 100000 in
theorem clo174 (r : IRec) (bx : Nat) (n : Int) (w : World) (ib : BlockLt bx w) (hx : w.cell? ⟨bx, 0, none⟩ = some (.int .i64 n)) :
    Calls Tryz.prog 174 #[.agg #[.int .i64 r.num, .bool r.dir, r.ev, .string r.data], .pointer (some ⟨bx, 0, none⟩)] w fun e w' => e = .returned (.bool (r.num == n)) ∧ Below w.heap.size w w' := by
  have ho := r.one
  go_enter Tryz.func174, Tryz.ntmps174
  go_wp2_with fail
  go_ret
  exact ⟨by first | rfl | simp_all, bel _ _⟩
def isNum (n : Int) (x : PIn) : Bool := x.num == n
theorem idx_recs (is : List IRec) (xs : List PIn) (n : Int) (hl : is.length = xs.length) (h : ∀ (q : Nat) (r : IRec) (x : PIn), is[q]? = some r → xs[q]? = some x → r.num = x.num) : idxM (fun r : IRec => r.num == n) is = idxM (isNum n) xs := by
  have key : ∀ (is : List IRec) (xs : List PIn) (q : Nat), is.length = xs.length → (∀ (q : Nat) (r : IRec) (x : PIn), is[q]? = some r → xs[q]? = some x → r.num = x.num) → idxFrom (fun r : IRec => r.num == n) is q = idxFrom (isNum n) xs q := by
    intro is
    induction is with
    | nil =>
      intro xs q hl _
      obtain rfl : xs = [] := List.eq_nil_of_length_eq_zero hl.symm
      rfl
    | cons r is ih =>
      intro xs q hl h
      obtain ⟨x, xs, rfl⟩ : ∃ x ys, xs = x :: ys := by
        rcases xs with _ | ⟨x, ys⟩
        · simp at hl
        · exact ⟨x, ys, rfl⟩
      have h0 := h 0 r x rfl rfl
      unfold idxFrom
      rw [ih xs (q + 1) (by simpa using hl) (fun k r' x' hr hx => h (k + 1) r' x' (by simpa using hr) (by simpa using hx))]
      simp only [isNum, h0]
      rfl
  exact key is xs 0 hl h
set_option maxRecDepth 100000 in
set_option maxHeartbeats 2000000 in
theorem inode161 (b p : Nat) (S : PSt) (n : Int) (w : World) (iB : BlockLt b w) (hb0 : w.cell? ⟨b, 0, none⟩ = some (.pointer (some ⟨p, 0, none⟩))) (h : SP w p S) (hlen : S.ins.length ≤ 1000000000) (K : Nat) (hK : idxM (isNum n) S.ins = K) (hKl : K < S.ins.length) :
    Calls Tryz.prog 161 #[.pointer (some ⟨b, 0, none⟩), .int .i64 n] w fun e w' => (∃ bi off cap, w.cell? ⟨p, 0, none⟩ = some (.slice (some ⟨bi, off, none⟩) S.ins.length cap) ∧ e = .returned (.pointer (some ⟨bi, off + K * 4, none⟩))) ∧ Below w.heap.size w w' := by
  obtain ⟨hl, iv, ov, mv, c0, c1, c2, hr⟩ := h
  have iP : BlockLt p w := ⟨hl⟩
  obtain ⟨_, _, is, h3, h4, h5⟩ := hr
  have hidx : ∀ ww bx, Below w.heap.size w ww → BlockLt bx ww → ww.cell? ⟨bx, 0, none⟩ = some (.int .i64 n) → Calls Tryz.prog 173 #[iv, .func (.func 174) #[] #[.pointer (some ⟨bx, 0, none⟩)]] ww fun e w' => e = .returned (.int .i64 K) ∧ Below ww.heap.size ww w' := fun ww bx hb ib hx => by
    have := index173 is iv (.pointer (some ⟨bx, 0, none⟩)) (fun r => r.num == n) ww (h3.below hb (Nat.le_refl _)) (by omega) (fun z wz _ hz => clo174 z bx n wz ⟨by have := ib.lt; have := hz.size; omega⟩ ((hz.cell (p := ⟨bx, 0, none⟩) ib.lt).trans hx))
    rw [idx_recs is S.ins n h4 (fun q r x hr hx => (h5 q r x hr hx).1), hK] at this
    exact this
  obtain ⟨ai, capi, rfl, hati⟩ := h3.at_
  rw [List.length_map, h4] at c0 hidx
  obtain ⟨r, hr⟩ : ∃ r, is[K]? = some r := ⟨_, List.getElem?_eq_getElem (by omega)⟩
  obtain ⟨bi, off, rfl, iG0, -, -⟩ := hati w (bel _ _) K r.cells (by rw [List.getElem?_map, hr]; rfl)
  have HC := Lib.hid c0
  have hKI : (K : Int) < S.ins.length := by omega
  clear h3 h5 hati hr c1 c2 hK
  go_enter Tryz.func161, Tryz.ntmps161
  go_wp2_with (go_at_call 173; refine (hidx _ _ (bel _ _) inferInstance (by go_simp)).mono ?_; rintro e w' ⟨rfl, hb⟩; obtain ⟨p, rfl⟩ := hb.rest; clear hb)
  go_ret
  exact ⟨⟨_, _, _, HC.out, rfl⟩, bel _ _⟩
end Go.Proofs.YtjkenolgkkknaaaGreatDoor
