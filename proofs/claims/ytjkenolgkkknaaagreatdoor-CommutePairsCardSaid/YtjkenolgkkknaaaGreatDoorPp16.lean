/- Part of the proof that the named pairs of calls commute. Conditions: none. -/
import Derived.Test.YtjkenolgkkknaaaGreatDoorPp15
set_option linter.unusedVariables false
set_option linter.unusedSimpArgs false
set_option maxRecDepth 100000
set_option maxHeartbeats 8000000
namespace Go.Proofs.YtjkenolgkkknaaaGreatDoor
open Go.RowKit
def Did (S : PSt) (c : PCall) (S' : PSt) (r : PRes) : Prop := ∀ (w : World) (iv ov mv : Value), StRead w iv ov mv S → Calls Tryz.prog 20 #[.agg #[iv, ov, mv], .agg #[.int .i64 c.kind, .int .i64 c.core, .int .i64 c.fd, .int .i64 c.off, .int .i64 c.num, .string c.path, .string c.path2, .string c.data]] w fun e w' => Below w.heap.size w w' ∧ DoneAt w.heap.size S' r e w'
theorem CP.of_blk {w : World} {k : Nat} {c : PCall} (h : Blk w k #[.int .i64 c.kind, .int .i64 c.core, .int .i64 c.fd, .int .i64 c.off, .int .i64 c.num, .string c.path, .string c.path2, .string c.data] 29) : CP w k c :=
 ⟨h.lt.lt, fun t u hu => by rw [h.cell]; simpa [PCall.cells] using hu⟩
theorem commute_not (iv ov mv : Value) (S : PSt) (x y : PCall) (w : World) (h : StRead w iv ov mv S) (hwf : S.wf) (hno : askedM S x y = false) :
 Calls Tryz.prog 9 #[.agg #[iv, ov, mv], x.val, y.val] w fun e w' => e = .returned (.bool false) ∧ Below w.heap.size w w' := by
 have hio : iv.oneCell' = true := by obtain ⟨_, _, _, h3, _⟩ := h; exact h3.one
 have hoo := h.1.one
 have hmo := h.2.1.one
 have hask : ∀ ww k1 k2 k3, Below w.heap.size w ww → Blk ww k1 #[iv, ov, mv] 27 → Blk ww k2 #[.int .i64 x.kind, .int .i64 x.core, .int .i64 x.fd, .int .i64 x.off, .int .i64 x.num, .string x.path, .string x.path2, .string x.data] 29 → Blk ww k3 #[.int .i64 y.kind, .int .i64 y.core, .int .i64 y.fd, .int .i64 y.off, .int .i64 y.num, .string y.path, .string y.path2, .string y.data] 29 →
  Calls Tryz.prog 19 #[.pointer (some ⟨k1, 0, none⟩), .pointer (some ⟨k2, 0, none⟩), .pointer (some ⟨k3, 0, none⟩)] ww fun e w' => e = .returned (.bool false) ∧ Below ww.heap.size ww w' := fun ww k1 k2 k3 hb h1 h2 h3 => by
  have := asked19 k1 k2 k3 S x y ww (SP.of_blk h1 (h.below hb (Nat.le_refl _))) hwf (CP.of_blk h2) (CP.of_blk h3); rw [hno] at this; exact this
 clear h hwf hno
 unfold PCall.val
 go_enter Tryz.func9, Tryz.ntmps9
 go_wp2_with (go_at_call 19; refine aT (hask _ _ _ _ (bel _ _) (by repeat (first | exact Blk.new_i _ _ _ _ | refine Blk.alloc ?_ _)) (by repeat (first | exact Blk.new_i _ _ _ _ | refine Blk.alloc ?_ _)) (by repeat (first | exact Blk.new_i _ _ _ _ | refine Blk.alloc ?_ _))) fun p => ?_)
 go_ret
 exact ⟨rfl, bel _ _⟩
class Above (N : Nat) (a w : World) : Prop where
 eq : ∀ k, N ≤ k → k < a.heap.size → w.heap[k]? = a.heap[k]?
 size : a.heap.size ≤ w.heap.size
instance {X X' : World} {p : Behind} {n : Nat} [h : SizeIs X n] [h' : SizeIs X' n] : Above X.heap.size (X.junk p) (X'.junk p) := ⟨fun k hk _ => by
 have e1 := h.eq
 have e2 := h'.eq
 simp only [World.junk]
 rw [Array.getElem?_append_right (by omega), Array.getElem?_append_right (by omega), e1, e2], by
 have e1 := h.eq
 have e2 := h'.eq
 rw [World.size_junk0, World.size_junk0, e1, e2]
 exact Nat.le_refl _⟩
instance {N : Nat} {a w : World} {o : Obj} [h : Above N a w] : Above N a (w.alloc o) := ⟨fun k hk hl => by rw [RowKit.Below.heap_alloc w o k (Nat.lt_of_lt_of_le hl h.size)]; exact h.eq k hk hl, by have := h.size; simp; omega⟩
instance {N : Nat} {a w : World} {q : Behind} [h : Above N a w] : Above N a (w.junk q) := ⟨fun k hk hl => by rw [World.heap_junk w q (Nat.lt_of_lt_of_le hl h.size)]; exact h.eq k hk hl, by have := h.size; rw [World.size_junk0]; omega⟩
theorem OwnP.above {N : Nat} {w : World} {e : TypeId} {k : Nat} {v : Value} {rows : List (List Value)} (h : OwnP N w e k v rows) (w' : World) [ha : Above N w w'] : OwnP N w' e k v rows := by
 rcases h with h | ⟨g, cap, cur, rfl, hg, hb, r⟩
 · exact .inl h
 · exact .inr ⟨g, cap, cur, rfl, hg, (ha.eq g hg hb.lt.lt).trans hb, r⟩
theorem StOwn.above {N : Nat} {w : World} {iv ov mv : Value} {S : PSt} (h : StOwn N w iv ov mv S) (w' : World) [ha : Above N w w'] : StOwn N w' iv ov mv S := by
 obtain ⟨h1, h2, is, h3, h4, h5, h6⟩ := h
 exact ⟨h1.above w', h2.above w', is, h3.above w', h4, fun q r x hr hx => by
  obtain ⟨a1, a2, a3, a4⟩ := h5 q r x hr hx; exact ⟨a1, a2, a3, a4.above w'⟩, h6⟩
theorem same21x (a b : PRes) (v u : Value) (s : Bool) (hs : sameM a b = s) (w : World) (hv : RowAt w 1 v (a.names.map strCells)) (hu : RowAt w 1 u (b.names.map strCells)) (hl : a.names.length ≤ 1000000000) :
 Calls Tryz.prog 21 #[.agg #[.int .i64 a.code, .int .i64 a.fd, .int .i64 a.num, .bool a.dir, .string a.data, v], .agg #[.int .i64 b.code, .int .i64 b.fd, .int .i64 b.num, .bool b.dir, .string b.data, u]] w fun e w' => e = .returned (.bool s) ∧ Below w.heap.size w w' := by
 rw [← hs]
 exact same21 a b v u w hv hu hl
theorem commute_yes (iv ov mv : Value) (S S1 S2 S3 S4 : PSt) (x y : PCall) (r t u v : PRes) (sh : Bool) (w : World) (h : StRead w iv ov mv S) (hwf : S.wf) (hyes : askedM S x y = true)
 (D1 : Did S x S1 r) (D2 : Did S1 y S2 t) (D3 : Did S y S3 u) (D4 : Did S3 x S4 v) (hr : r.names.length ≤ 1000000000) (ht : t.names.length ≤ 1000000000)
 (hsh : sameM r v = true → sameM t u = true → ∀ (ww : World) (iv ov mv iv' ov' mv' : Value), Below w.heap.size w ww → StRead ww iv ov mv S2 → StRead ww iv' ov' mv' S4 → Calls Tryz.prog 22 #[.agg #[iv, ov, mv], .agg #[iv', ov', mv']] ww fun e w' => e = .returned (.bool sh) ∧ Below ww.heap.size ww w') :
 Calls Tryz.prog 9 #[.agg #[iv, ov, mv], x.val, y.val] w fun e w' => e = .returned (.bool (sameM r v && sameM t u && sh)) ∧ Below w.heap.size w w' := by
 have hio : iv.oneCell' = true := by obtain ⟨_, _, _, h3, _⟩ := h; exact h3.one
 have hoo := h.1.one
 have hmo := h.2.1.one
 have hask : ∀ ww k1 k2 k3, Below w.heap.size w ww → Blk ww k1 #[iv, ov, mv] 27 → Blk ww k2 #[.int .i64 x.kind, .int .i64 x.core, .int .i64 x.fd, .int .i64 x.off, .int .i64 x.num, .string x.path, .string x.path2, .string x.data] 29 → Blk ww k3 #[.int .i64 y.kind, .int .i64 y.core, .int .i64 y.fd, .int .i64 y.off, .int .i64 y.num, .string y.path, .string y.path2, .string y.data] 29 →
  Calls Tryz.prog 19 #[.pointer (some ⟨k1, 0, none⟩), .pointer (some ⟨k2, 0, none⟩), .pointer (some ⟨k3, 0, none⟩)] ww fun e w' => e = .returned (.bool true) ∧ Below ww.heap.size ww w' := fun ww k1 k2 k3 hb h1 h2 h3 => by
  have := asked19 k1 k2 k3 S x y ww (SP.of_blk h1 (h.below hb (Nat.le_refl _))) hwf (CP.of_blk h2) (CP.of_blk h3); rw [hyes] at this; exact this
 have HS := Lib.hid h
 clear h hwf hyes
 unfold PCall.val
 generalize h1 : sameM r v = s1
 generalize h2 : sameM t u = s2
 rcases s1 with _ | _
 · simp only [Bool.false_and]
   go_enter Tryz.func9, Tryz.ntmps9
   go_upto_region 3 with (go_at_call 19; refine aT (hask _ _ _ _ (bel _ _) (by repeat (first | exact Blk.new_i _ _ _ _ | refine Blk.alloc ?_ _)) (by repeat (first | exact Blk.new_i _ _ _ _ | refine Blk.alloc ?_ _)) (by repeat (first | exact Blk.new_i _ _ _ _ | refine Blk.alloc ?_ _))) fun p => ?_)
   go_upto_region 4 with (go_at_call 20; refine (D1 _ _ _ _ (HS.out.below (bel w _) (Nat.le_refl _))).mono ?_; rintro e wa ⟨hb, iv1, ov1, mv1, nv1, rfl, hs1, hn1⟩; obtain ⟨pa, rfl⟩ := hb.rest; clear hb; have hr1 := hs1.read; obtain ⟨a11, a12, a13, a14, a15, a16, a17, a18, a19, rfl, rfl, rfl⟩ := hs1.forms; have hn1r := hn1.row; obtain ⟨n11, n12, n13, rfl⟩ := hn1.form; (try simp only [World.junk_junk] at hr1 hn1r); have H1 := Lib.hid (And.intro hr1 hn1r); clear hs1 hn1 hr1 hn1r)
   go_upto_region 5 with (go_at_call 20; refine (D2 _ _ _ _ (H1.out.1.below (bel _ _) (Nat.le_refl _))).mono ?_; rintro e wa ⟨hb, iv1, ov1, mv1, nv1, rfl, hs1, hn1⟩; obtain ⟨pa, rfl⟩ := hb.rest; clear hb; have hr1 := hs1; obtain ⟨a21, a22, a23, a24, a25, a26, a27, a28, a29, rfl, rfl, rfl⟩ := hs1.forms; have hn1r := hn1; obtain ⟨n21, n22, n23, rfl⟩ := hn1.form; have H2 := Lib.hid (And.intro hr1 hn1r); clear hs1 hn1 hr1 hn1r)
   go_upto_region 6 with (go_at_call 20; refine (D3 _ _ _ _ (HS.out.below (bel w _) (Nat.le_refl _))).mono ?_; rintro e wa ⟨hb, iv1, ov1, mv1, nv1, rfl, hs1, hn1⟩; obtain ⟨pa, rfl⟩ := hb.rest; clear hb; have hr1 := hs1.read; obtain ⟨a31, a32, a33, a34, a35, a36, a37, a38, a39, rfl, rfl, rfl⟩ := hs1.forms; have hn1r := hn1.row; obtain ⟨n31, n32, n33, rfl⟩ := hn1.form; (try simp only [World.junk_junk] at hr1 hn1r); have H3 := Lib.hid (And.intro hr1 hn1r); clear hs1 hn1 hr1 hn1r)
   go_upto_region 7 with (go_at_call 20; refine (D4 _ _ _ _ (H3.out.1.below (bel _ _) (Nat.le_refl _))).mono ?_; rintro e wa ⟨hb, iv1, ov1, mv1, nv1, rfl, hs1, hn1⟩; obtain ⟨pa, rfl⟩ := hb.rest; clear hb; have hr1 := hs1; obtain ⟨a41, a42, a43, a44, a45, a46, a47, a48, a49, rfl, rfl, rfl⟩ := hs1.forms; have hn1r := hn1; obtain ⟨n41, n42, n43, rfl⟩ := hn1.form; have H4 := Lib.hid (And.intro hr1 hn1r); clear hs1 hn1 hr1 hn1r)
   go_wp2_with (first | (go_at_call 21; with_reducible refine aT (same21x r v _ _ _ h1 _ (H1.out.2.below (bel _ _) (Nat.le_refl _)) (H4.out.2.above _).row hr) fun p => ?_) | (go_at_call 21; with_reducible refine aT (same21x t u _ _ _ h2 _ (H2.out.2.above _).row (H3.out.2.below (bel _ _) (Nat.le_refl _)) ht) fun p => ?_))
   go_ret; exact ⟨rfl, bel w _⟩
 rcases s2 with _ | _
 · simp only [Bool.true_and, Bool.false_and]
   go_enter Tryz.func9, Tryz.ntmps9
   go_upto_region 3 with (go_at_call 19; refine aT (hask _ _ _ _ (bel _ _) (by repeat (first | exact Blk.new_i _ _ _ _ | refine Blk.alloc ?_ _)) (by repeat (first | exact Blk.new_i _ _ _ _ | refine Blk.alloc ?_ _)) (by repeat (first | exact Blk.new_i _ _ _ _ | refine Blk.alloc ?_ _))) fun p => ?_)
   go_upto_region 4 with (go_at_call 20; refine (D1 _ _ _ _ (HS.out.below (bel w _) (Nat.le_refl _))).mono ?_; rintro e wa ⟨hb, iv1, ov1, mv1, nv1, rfl, hs1, hn1⟩; obtain ⟨pa, rfl⟩ := hb.rest; clear hb; have hr1 := hs1.read; obtain ⟨a11, a12, a13, a14, a15, a16, a17, a18, a19, rfl, rfl, rfl⟩ := hs1.forms; have hn1r := hn1.row; obtain ⟨n11, n12, n13, rfl⟩ := hn1.form; (try simp only [World.junk_junk] at hr1 hn1r); have H1 := Lib.hid (And.intro hr1 hn1r); clear hs1 hn1 hr1 hn1r)
   go_upto_region 5 with (go_at_call 20; refine (D2 _ _ _ _ (H1.out.1.below (bel _ _) (Nat.le_refl _))).mono ?_; rintro e wa ⟨hb, iv1, ov1, mv1, nv1, rfl, hs1, hn1⟩; obtain ⟨pa, rfl⟩ := hb.rest; clear hb; have hr1 := hs1; obtain ⟨a21, a22, a23, a24, a25, a26, a27, a28, a29, rfl, rfl, rfl⟩ := hs1.forms; have hn1r := hn1; obtain ⟨n21, n22, n23, rfl⟩ := hn1.form; have H2 := Lib.hid (And.intro hr1 hn1r); clear hs1 hn1 hr1 hn1r)
   go_upto_region 6 with (go_at_call 20; refine (D3 _ _ _ _ (HS.out.below (bel w _) (Nat.le_refl _))).mono ?_; rintro e wa ⟨hb, iv1, ov1, mv1, nv1, rfl, hs1, hn1⟩; obtain ⟨pa, rfl⟩ := hb.rest; clear hb; have hr1 := hs1.read; obtain ⟨a31, a32, a33, a34, a35, a36, a37, a38, a39, rfl, rfl, rfl⟩ := hs1.forms; have hn1r := hn1.row; obtain ⟨n31, n32, n33, rfl⟩ := hn1.form; (try simp only [World.junk_junk] at hr1 hn1r); have H3 := Lib.hid (And.intro hr1 hn1r); clear hs1 hn1 hr1 hn1r)
   go_upto_region 7 with (go_at_call 20; refine (D4 _ _ _ _ (H3.out.1.below (bel _ _) (Nat.le_refl _))).mono ?_; rintro e wa ⟨hb, iv1, ov1, mv1, nv1, rfl, hs1, hn1⟩; obtain ⟨pa, rfl⟩ := hb.rest; clear hb; have hr1 := hs1; obtain ⟨a41, a42, a43, a44, a45, a46, a47, a48, a49, rfl, rfl, rfl⟩ := hs1.forms; have hn1r := hn1; obtain ⟨n41, n42, n43, rfl⟩ := hn1.form; have H4 := Lib.hid (And.intro hr1 hn1r); clear hs1 hn1 hr1 hn1r)
   go_wp2_with (first | (go_at_call 21; with_reducible refine aT (same21x r v _ _ _ h1 _ (H1.out.2.below (bel _ _) (Nat.le_refl _)) (H4.out.2.above _).row hr) fun p => ?_) | (go_at_call 21; with_reducible refine aT (same21x t u _ _ _ h2 _ (H2.out.2.above _).row (H3.out.2.below (bel _ _) (Nat.le_refl _)) ht) fun p => ?_))
   go_ret; exact ⟨rfl, bel w _⟩
 have hsh2 := hsh h1 h2
 clear hsh
 simp only [Bool.true_and]
 go_enter Tryz.func9, Tryz.ntmps9
 go_upto_region 3 with (go_at_call 19; refine aT (hask _ _ _ _ (bel _ _) (by repeat (first | exact Blk.new_i _ _ _ _ | refine Blk.alloc ?_ _)) (by repeat (first | exact Blk.new_i _ _ _ _ | refine Blk.alloc ?_ _)) (by repeat (first | exact Blk.new_i _ _ _ _ | refine Blk.alloc ?_ _))) fun p => ?_)
 go_upto_region 4 with (go_at_call 20; refine (D1 _ _ _ _ (HS.out.below (bel w _) (Nat.le_refl _))).mono ?_; rintro e wa ⟨hb, iv1, ov1, mv1, nv1, rfl, hs1, hn1⟩; obtain ⟨pa, rfl⟩ := hb.rest; clear hb; have hr1 := hs1.read; obtain ⟨a11, a12, a13, a14, a15, a16, a17, a18, a19, rfl, rfl, rfl⟩ := hs1.forms; have hn1r := hn1.row; obtain ⟨n11, n12, n13, rfl⟩ := hn1.form; (try simp only [World.junk_junk] at hr1 hn1r); have H1 := Lib.hid (And.intro hr1 hn1r); clear hs1 hn1 hr1 hn1r)
 go_upto_region 5 with (go_at_call 20; refine (D2 _ _ _ _ (H1.out.1.below (bel _ _) (Nat.le_refl _))).mono ?_; rintro e wa ⟨hb, iv1, ov1, mv1, nv1, rfl, hs1, hn1⟩; obtain ⟨pa, rfl⟩ := hb.rest; clear hb; have hr1 := hs1; obtain ⟨a21, a22, a23, a24, a25, a26, a27, a28, a29, rfl, rfl, rfl⟩ := hs1.forms; have hn1r := hn1; obtain ⟨n21, n22, n23, rfl⟩ := hn1.form; have H2 := Lib.hid (And.intro hr1 hn1r); clear hs1 hn1 hr1 hn1r)
 go_upto_region 6 with (go_at_call 20; refine (D3 _ _ _ _ (HS.out.below (bel w _) (Nat.le_refl _))).mono ?_; rintro e wa ⟨hb, iv1, ov1, mv1, nv1, rfl, hs1, hn1⟩; obtain ⟨pa, rfl⟩ := hb.rest; clear hb; have hr1 := hs1.read; obtain ⟨a31, a32, a33, a34, a35, a36, a37, a38, a39, rfl, rfl, rfl⟩ := hs1.forms; have hn1r := hn1.row; obtain ⟨n31, n32, n33, rfl⟩ := hn1.form; (try simp only [World.junk_junk] at hr1 hn1r); have H3 := Lib.hid (And.intro hr1 hn1r); clear hs1 hn1 hr1 hn1r)
 go_upto_region 7 with (go_at_call 20; refine (D4 _ _ _ _ (H3.out.1.below (bel _ _) (Nat.le_refl _))).mono ?_; rintro e wa ⟨hb, iv1, ov1, mv1, nv1, rfl, hs1, hn1⟩; obtain ⟨pa, rfl⟩ := hb.rest; clear hb; have hr1 := hs1; obtain ⟨a41, a42, a43, a44, a45, a46, a47, a48, a49, rfl, rfl, rfl⟩ := hs1.forms; have hn1r := hn1; obtain ⟨n41, n42, n43, rfl⟩ := hn1.form; have H4 := Lib.hid (And.intro hr1 hn1r); clear hs1 hn1 hr1 hn1r)
 go_wp2_with (first | (go_at_call 21; with_reducible refine aT (same21x r v _ _ _ h1 _ (H1.out.2.below (bel _ _) (Nat.le_refl _)) (H4.out.2.above _).row hr) fun p => ?_) | (go_at_call 21; with_reducible refine aT (same21x t u _ _ _ h2 _ (H2.out.2.above _).row (H3.out.2.below (bel _ _) (Nat.le_refl _)) ht) fun p => ?_) | (go_at_call 22; refine aT (hsh2 _ _ _ _ _ _ _ (bel w _) (H2.out.1.above _).read (H4.out.1.above _).read) fun p => ?_))
 go_ret
 exact ⟨rfl, bel w _⟩
def linkE (n : Int) (x : PIn) : List PEnt → Nat
 | [] => 0
 | e :: r => (if (x.dir && (e.num == n)) = true then 1 else 0) + linkE n x r
def linkI (n : Int) : List PIn → Nat
 | [] => 0
 | x :: r => linkE n x x.ents + linkI n r
def linksM (S : PSt) (n : Int) : Nat := linkI n S.ins
theorem linkE_le (n : Int) (x : PIn) : ∀ es, linkE n x es ≤ es.length
 | [] => Nat.le_refl _
 | e :: r => by
   have := linkE_le n x r; unfold linkE
   split <;> simp <;> omega
theorem linkI_le (n : Int) : ∀ xs : List PIn, (∀ x ∈ xs, x.ents.length ≤ 1000000000) → linkI n xs ≤ xs.length * 1000000000
 | [], _ => Nat.le_refl _
 | x :: r, h => by
   have h1 := linkI_le n r (fun y hy => h y (List.mem_cons_of_mem _ hy)); have h2 := linkE_le n x x.ents; have h3 := h x List.mem_cons_self; unfold linkI; simp only [List.length_cons]; omega
theorem linksM_le {S : PSt} (h : S.wf) (n : Int) : linksM S n ≤ 1000000000000000000 := by
 have h1 := linkI_le n S.ins (fun x hx => (h.2.2.2.1 x hx).2.1)
 have h2 := h.1
 have h3 : S.ins.length * 1000000000 ≤ 1000000000 * 1000000000 := Nat.mul_le_mul_right _ h2
 unfold linksM
 omega
theorem linkI_drop {n : Int} {xs : List PIn} {q : Nat} {z : PIn} (h : xs[q]? = some z) : linkI n (xs.drop q) = linkE n z z.ents + linkI n (xs.drop (q + 1)) := by rw [drop_at h]; rfl
theorem linkE_drop {n : Int} {x : PIn} {es : List PEnt} {q : Nat} {z : PEnt} (h : es[q]? = some z) : linkE n x (es.drop q) = (if (x.dir && (z.num == n)) = true then 1 else 0) + linkE n x (es.drop (q + 1)) := by rw [drop_at h]; rfl
theorem links82 (iv ov mv : Value) (S : PSt) (n : Int) (w : World) (h : StRead w iv ov mv S) (hwf : S.wf) :
 Calls Tryz.prog 82 #[.agg #[iv, ov, mv], .int .i64 n] w fun e w' => e = .returned (.int .i64 (linksM S n)) ∧ Below w.heap.size w w' := by
 have hoo := h.1.one
 have hmo := h.2.1.one
 obtain ⟨ai, capi, rfl, hati⟩ := h.ins_at2
 have HI := Lib.hid hati
 have hNl := linksM_le hwf n
 have hlin := hwf.1
 unfold linksM at *
 obtain ⟨N, hN⟩ : ∃ N, linkI n S.ins = N := ⟨_, rfl⟩
 rw [hN] at hNl ⊢
 have HN := Lib.hid hN
 have HW := Lib.hid hwf.2.2.2.1
 clear h hati hN hwf
 go_enter Tryz.func82, Tryz.ntmps82
 go_wp2_with fail
 go_loopw [5, 13] (fun vn vi wr => ∃ (q a : Nat), vi = .int .i64 q ∧ vn = .int .i64 a ∧ q ≤ S.ins.length ∧ a + linkI n (S.ins.drop q) = N ∧ Below w.heap.size w wr) (fun _ vi _ => (S.ins.length - intOf vi).toNat)
 case atStart => exact ⟨0, 0, rfl, rfl, by omega, by simpa using HN.out, bel _ _⟩
 case round =>
  obtain ⟨q, a, rfl, rfl, hq, hre, hb⟩ := hrel
  rename World => wo
  have iB : Bel w wo := ⟨hb⟩
  by_cases hlt : q < S.ins.length
  · obtain ⟨z, hz⟩ : ∃ z, S.ins[q]? = some z := ⟨_, gE hlt⟩
    rw [linkI_drop hz] at hre; obtain ⟨bi, off, ev1, rfl, iG0, ho1, hev, hcl⟩ := HI.out q z hz; obtain ⟨iGr, y0, y1, y2, y3⟩ := hcl wo hb; obtain ⟨ae, ce, rfl, hat⟩ := hev.at_; rw [lM] at y2; have HE := Lib.hid hat; have hzl := (HW.out z (mG hz)).2.1; have HR := Lib.hid hre; clear hat hev hz hre hcl; go_wp2_with fail
    go_loopw [5, 20] (fun vn vi w2 => ∃ (k a2 : Nat), vi = .int .i64 k ∧ vn = .int .i64 a2 ∧ k ≤ z.ents.length ∧ a2 + linkE n z (z.ents.drop k) = a + linkE n z z.ents ∧ Below wo.heap.size wo w2 ∧ Blk w2 wo.heap.size #[.int .i64 z.num, .bool z.dir, .slice ae z.ents.length ce, .string z.data] 65) (fun _ vi _ => (z.ents.length - intOf vi).toNat)
    case atStart => exact ⟨0, a, rfl, rfl, by omega, rfl, bel _ _, Blk.new _ _ _⟩
    case round =>
     obtain ⟨k, a2, rfl, rfl, hk, hre2, hb2, hblk⟩ := hrel; have iB2 : Bel w wr := ⟨hb.trans (hb2.mono hb.size)⟩
     have iB3 : Bel wo wr := ⟨hb2⟩
     have z0 := hblk.cell 1; have iK := hblk.lt; have HK := Lib.hid hblk; by_cases hlk : k < z.ents.length
     · obtain ⟨e, he⟩ : ∃ e, z.ents[k]? = some e := ⟨_, gE hlk⟩
       rw [linkE_drop he] at hre2; obtain ⟨be, offe, rfl, iE0, iE, hce⟩ := HE.out wr iB2.below k e.cells (by rw [gM, he]; rfl); have e0 := hce 0 _ rfl; have e1 := hce 1 _ rfl; rw [Nat.add_zero] at e0; have ha2 : a2 + 1 ≤ 1000000000000000001 := by have := HR.out; omega
       have ew : wrap64 ((a2 : Int) + 1) = (a2 : Int) + 1 := by simp only [wrap64]; omega
       generalize hd : z.dir = dd at *; generalize hg : (e.num == n) = gg at hre2; have HR2 := Lib.hid hre2; clear hre2 hce he hblk; rcases dd with _ | _ <;> rcases gg with _ | _
       · go_wp2_with fail
         go_roundw
         case rel => exact ⟨k + 1, a2, by go_num, rfl, by omega, by have := HR2.out; simpa using this, bel _ _, (HK.out.alloc _)⟩
         case measure => simp [intOf]; omega
       · go_wp2_with fail
         go_roundw
         case rel => exact ⟨k + 1, a2, by go_num, rfl, by omega, by have := HR2.out; simpa using this, bel _ _, (HK.out.alloc _)⟩
         case measure => simp [intOf]; omega
       · go_wp2_with fail
         go_roundw
         case rel => exact ⟨k + 1, a2, by go_num, rfl, by omega, by have := HR2.out; simpa using this, bel _ _, (HK.out.alloc _)⟩
         case measure => simp [intOf]; omega
       · go_wp2_with fail
         go_roundw
         case rel => exact ⟨k + 1, a2 + 1, by go_num, by go_num, by omega, by have := HR2.out; simp at this; omega, bel _ _, (HK.out.alloc _)⟩
         case measure => simp [intOf]; omega
     · rw [List.drop_of_length_le (by omega)] at hre2; clear hblk; go_wp2_with fail
       go_roundw
       case rel => exact ⟨q + 1, a2, by go_num, rfl, by omega, by have := HR.out; have e : a2 + linkE n z [] = _ := hre2; simp only [linkE] at e; omega, iB2.below⟩
       case measure => simp [intOf]; omega
  · rw [List.drop_of_length_le (by omega)] at hre; have e : a = N := by simpa [linkI] using hre
    clear hre; subst e; go_wp2_with fail; go_ret; exact ⟨rfl, bel _ _⟩
def itoaB (n : Int) : ByteArray := ⟨(Lib.itoa n).toArray⟩
def shownM (p : ByteArray) : ByteArray := if p.toList.isEmpty = true then ⟨#[47]⟩ else p
def wlkT (S : PSt) : Nat → Int → ByteArray → List UInt8
 | 0, _, _ => []
 | f + 1, n, p => match S.ins[(idxM (isNum n) S.ins).toNat]? with
   | none => []
   | some x => if x.dir = true then lineM [⟨#[100]⟩, shownM p, itoaB n] ++ x.ents.flatMap (fun e => wlkT S f e.num (p ++ ⟨#[47]⟩ ++ e.name)) else lineM [⟨#[102]⟩, shownM p, itoaB n, hexM x.data]
def wlkOk (S : PSt) : Nat → Int → Bool
 | 0, _ => false
 | f + 1, n => decide (0 ≤ idxM (isNum n) S.ins) && match S.ins[(idxM (isNum n) S.ins).toNat]? with
   | none => false
   | some x => !x.dir || x.ents.all (fun e => wlkOk S f e.num)
theorem lineM_mem (ws : List ByteArray) (s : ByteArray) (h : s ∈ ws) : s.size ≤ (lineM ws).length := by
 have key : ∀ (ls : List (List UInt8)) (l : List UInt8), l ∈ ls → l.length ≤ (Lib.join ls [32]).length := by
  intro ls; unfold Lib.join
  induction ls with
  | nil => intro l hl; cases hl
  | cons a r ih =>
    intro l hl; rcases r with _ | ⟨b, r⟩
    · simp only [List.mem_singleton] at hl; subst hl; simp [List.intercalate]
    · rcases List.mem_cons.1 hl with rfl | hl
      · simp [List.intercalate, List.intersperse]
      · have := ih l hl; simp only [List.intercalate, List.intersperse, List.flatten_cons, lP] at this ⊢; omega
 have := key (ws.map (·.data.toList)) s.data.toList (List.mem_map.2 ⟨s, h, rfl⟩)
 unfold lineM
 rw [lP]
 have e : s.size = s.data.toList.length := by rw [Array.length_toList]; rfl
 omega
theorem shownM_le (p : ByteArray) : p.size ≤ (shownM p).size := by
 unfold shownM
 by_cases h : p.toList.isEmpty = true
 · rw [ByteArray.toList_eq] at h; have h2 : p.data.toList = [] := by simpa using h
   have e : p.size = p.data.toList.length := by rw [Array.length_toList]; rfl
   rw [e, h2]; simp
 · rw [if_neg h]; exact Nat.le_refl _
theorem wlkT_path {S : PSt} {f : Nat} {n : Int} (p : ByteArray) (h : wlkOk S f n = true) : p.size ≤ (wlkT S f n p).length := by
 rcases f with _ | f
 · cases h
 unfold wlkOk at h
 simp only [Bool.and_eq_true] at h
 unfold wlkT
 rcases hx : S.ins[(idxM (isNum n) S.ins).toNat]? with _ | x
 · rw [hx] at h; simp at h
 · simp only; have h1 := shownM_le p; by_cases hd : x.dir = true
   · rw [if_pos hd, lP]; have := lineM_mem [⟨#[100]⟩, shownM p, itoaB n] (shownM p) (by simp); omega
   · rw [if_neg hd]; have := lineM_mem [⟨#[102]⟩, shownM p, itoaB n, hexM x.data] (shownM p) (by simp); omega
theorem strs_at {w : World} {bk : Nat} {t : TypeId} (ws : List ByteArray) (h : Blk w bk (ws.map Value.string).toArray t) : ∀ (j : Nat) (x : ByteArray), ws[j]? = some x → w.cell? ⟨bk, 0 + j, none⟩ = some (.string x) := by
 intro j x hj
 rw [h.cell]
 simp [hj]
theorem flatMap_take {α β : Type} (F : α → List β) (l : List α) (q : Nat) (z : α) (h : l[q]? = some z) : (l.take (q + 1)).flatMap F = (l.take q).flatMap F ++ F z := by
 obtain ⟨hlt, rfl⟩ := gI.1 h
 rw [List.take_succ_eq_append_getElem hlt, List.flatMap_append]
 congr 1
 simp
theorem flatMap_take_le {α β : Type} (F : α → List β) (l : List α) (q : Nat) : ((l.take q).flatMap F).length ≤ (l.flatMap F).length := by
 conv => rhs; rw [← List.take_append_drop q l]
 rw [List.flatMap_append, lP]
 omega
def Shw (p0 : Nat) (S : PSt) (w : World) : Prop := SP w p0 S ∧ Pow10 w
theorem walk132 (B b p0 : Nat) (S : PSt) (hwf : S.wf) (hd : ∀ x ∈ S.ins, x.data.size ≤ 1000000) : ∀ (f : Nat) (n : Int) (s : ByteArray) (t : List UInt8) (w : World), wlkOk S f n = true → I64 n → (t ++ wlkT S f n s).length ≤ 1000000000000 →
 Laid B (Shw p0 S) w → IsWr B b (.pointer (some ⟨p0, 0, none⟩)) (Lib.byteCells t) w → B ≤ w.heap.size →
 Calls Tryz.prog 132 #[.pointer (some ⟨b, 0, none⟩), .int .i64 n, .string s] w fun e w' => e = .returned (.tuple #[]) ∧ IsWr B b (.pointer (some ⟨p0, 0, none⟩)) (Lib.byteCells (t ++ wlkT S f n s)) w' ∧ Below B w w' := by
 intro f
 induction f with
 | zero => intro n s t w hok; cases hok
 | succ f ih =>
   intro n s t w hok hn hlen hL hW hBw; have hL0 := hL; obtain ⟨w0, ⟨hsp, h10⟩, hB0, hb0⟩ := hL0; unfold wlkOk at hok; unfold wlkT at hlen ⊢; obtain ⟨K, hK⟩ : ∃ K : Nat, idxM (isNum n) S.ins = K := ⟨(idxM (isNum n) S.ins).toNat, by simp at hok; omega⟩
   rw [hK] at hok hlen ⊢; simp only [Int.toNat_natCast] at hok hlen ⊢; obtain ⟨x, hx⟩ : ∃ x, S.ins[K]? = some x := by
    rcases h : S.ins[K]? with _ | x
    · rw [h] at hok; simp at hok
    · exact ⟨x, rfl⟩
   rw [hx] at hok hlen ⊢; simp only at hok hlen ⊢; obtain ⟨hKl, _⟩ := gI.1 hx; have hxm := mG hx; have iW := hW.lt; have hsz := hb0.size; obtain ⟨hl0, iv, ov, mv, c0, c1, c2, hr⟩ := hsp; obtain ⟨ai, capi, rfl, hati⟩ := hr.ins_at2; obtain ⟨bi, off, ev, rfl, iG0, ho1, hev, hcl⟩ := hati K x hx; have hino : ∀ ww, Below w.heap.size w ww → Calls Tryz.prog 161 #[.pointer (some ⟨b, 0, none⟩), .int .i64 n] ww fun e w' => e = .returned (.pointer (some ⟨bi, off + K * 4, none⟩)) ∧ Below ww.heap.size ww w' := fun ww hb => by
    have hbb : Below w0.heap.size w0 ww := hb0.trans (hb.mono hsz); have hcw : ww.cell? ⟨b, 0, none⟩ = some (.pointer (some ⟨p0, 0, none⟩)) := by
     rw [hb.cell (p := ⟨b, 0, none⟩) iW]; rcases hW with ⟨_, v, h, _⟩ | ⟨_, v, h, _⟩ <;> (rw [Lib.cell_of_heap h]; rfl)
    refine (inode161 b p0 S n ww ⟨by have := hb.size; omega⟩ hcw (SP.below ⟨hl0, _, ov, mv, c0, c1, c2, hr⟩ hbb (Nat.le_refl _)) hwf.1 K hK hKl).mono ?_; rintro e w' ⟨⟨bi', off', cap', h1, rfl⟩, h2⟩; have h3 := (hbb.cell (p := ⟨p0, 0, none⟩) hl0).trans c0; rw [h3] at h1; simp only [Option.some.injEq, Value.slice.injEq, Addr.mk.injEq] at h1; obtain ⟨⟨rfl, rfl, -⟩, -, rfl⟩ := h1; exact ⟨rfl, h2⟩
   have hito : ∀ ww, Below B w ww → Calls Tryz.prog 84 #[.int .i64 n] ww fun e w' => e = .returned (.string (itoaB n)) ∧ Below ww.heap.size ww w' := fun ww hb => itoa84 B n hn ww ((hL.below hb).imp (fun _ h => h.2))
   obtain ⟨iGw, y0, y1, y2, y3⟩ := hcl w hb0; have iL : BlockLt b w := ⟨iW⟩
   have iBB : ∀ ww, Below w.heap.size w ww → Below B w ww := fun ww h => h.mono hBw
   have hlin : ∀ ws ww t' bk c, Below w.heap.size w ww → Blk ww bk (ws.map Value.string).toArray 9 → ws.length ≤ c → ws.length ≤ 1000 → t' = t → (t ++ lineM ws).length ≤ 1000000000000 → Calls Tryz.prog 83 #[.pointer (some ⟨b, 0, none⟩), .slice (some ⟨bk, 0, none⟩) ws.length c] ww fun e w' => e = .returned (.tuple #[]) ∧ IsWr B b (.pointer (some ⟨p0, 0, none⟩)) (Lib.byteCells (t ++ lineM ws)) w' ∧ Below B ww w' := fun ws ww t' bk c hb hbk h1 h2 _ h3 =>
    line83 B b _ t ws bk c ww (hW.below hb) (strs_at ws hbk) hbk.lt.lt h1 h2 (by omega) (Nat.le_trans hBw hb.size)
   obtain ⟨xn, xd, xe, xdat⟩ := x; simp only at hok hlen y0 y1 y2 y3 hev hcl ⊢; rcases xd with _ | _
   · simp only [Bool.false_eq_true, if_false] at hlen ⊢; have hhex : ∀ ww, Calls Tryz.prog 85 #[.string xdat] ww fun e w' => e = .returned (.string (hexM xdat)) ∧ Below ww.heap.size ww w' := fun ww => hex85 xdat (by have := hd _ hxm; simp only at this; omega) ww
     clear hok hL hW hcl hati hr hev ih hd hwf; rcases hemp : s.toList.isEmpty with _ | _
     · have hs : shownM s = s := by unfold shownM; rw [hemp]; rfl
       rw [hs] at hlen ⊢; have HL := Lib.hid hlen; clear hlen
       go_enter Tryz.func132, Tryz.ntmps132
       go_wp2_with (go_at_call 161; refine aT (hino _ (bel _ _)) fun p => ?_)
       refine wp_region_eff [3, 8, 9, 10] true (fun w' => w'.cell? ⟨bi, off + K * 4 + 3, none⟩ = some (.string xdat)) (by kernel_rfl) (by kernel_rfl) (by go_simp) ?_
       repeat
        refine wpL_look rfl rfl ?_; apply Exists.intro; refine ⟨?_, ?_⟩
        focus
         rintro w' s0; go_simp
         first | done | rfl
        simp only [Act.put, sA, sZ, sS]
       refine wpL_act rfl rfl ?_; refine eff_call 84 #[.int .i64 n] ?hrq1 ?_
       case hrq1 =>
        go_simp
        first | done | rfl
       refine (hito _ (iBB _ (bel w _))).mono ?_; rintro e w' ⟨rfl, hb⟩; obtain ⟨q1, rfl⟩ := hb.rest; clear hb; refine ⟨_, rfl, .inl (by go_simp), ?_⟩; simp only [Act.put, sA, sZ, sS]
       repeat
        refine wpL_look rfl rfl ?_; apply Exists.intro; refine ⟨?_, ?_⟩
        focus
         rintro w' s0; go_simp
         first | done | rfl
        simp only [Act.put, sA, sZ, sS]
       refine wpL_act rfl rfl ?_; refine eff_call 85 #[.string xdat] ?hrq2 ?_
       case hrq2 =>
        go_simp
        first | done | rfl
       refine (hhex _).mono ?_; rintro e w' ⟨rfl, hb⟩; obtain ⟨q2, rfl⟩ := hb.rest; clear hb; refine ⟨_, rfl, .inl (by go_simp), ?_⟩; simp only [Act.put, sA, sZ, sS]; refine wpL_do rfl rfl ?_; apply Exists.intro; apply Exists.intro; refine ⟨?_, ?_, ?_⟩
       focus
        go_simp; exact ⟨rfl, rfl⟩
       focus
        refine .inl ?_; go_simp
       simp only [Act.put, sA, sZ, sS]; refine wpL_act rfl rfl ?_; refine eff_call 83 #[.pointer (some ⟨b, 0, none⟩), .slice (some ⟨w.heap.size + ((p.drew.more q1).more q2).len, 0, none⟩) 4 4] ?hr3 ?_
       case hr3 =>
        go_simp
        first | done | rfl
       refine (hlin [⟨#[102]⟩, s, itoaB n, hexM xdat] _ t _ 4 (bel w _) (Blk.new_i _ _ _ _) (by simp) (by simp) rfl HL.out).mono ?_; rintro e w2 ⟨rfl, h2, hb2⟩; refine ⟨_, rfl, .inr ⟨rfl, rfl⟩, ?_⟩; simp only [Act.put, sA, sZ, sS]; refine wpL_end ?_; have HW2 := Lib.hid (And.intro h2 ((iBB _ (bel w _)).trans hb2)); clear h2 hb2; go_wp2_with fail; exact bodyPost_ret (v := .tuple #[]) (by simp [results, go_sem]) rfl ⟨rfl, HW2.out⟩
     · have hs : shownM s = ⟨#[47]⟩ := by unfold shownM; rw [hemp]; rfl
       rw [hs] at hlen ⊢; have HL := Lib.hid hlen; clear hlen
       go_enter Tryz.func132, Tryz.ntmps132
       go_wp2_with (go_at_call 161; refine aT (hino _ (bel _ _)) fun p => ?_)
       refine wp_region_eff [3, 8, 9, 10] true (fun w' => w'.cell? ⟨bi, off + K * 4 + 3, none⟩ = some (.string xdat)) (by kernel_rfl) (by kernel_rfl) (by go_simp) ?_
       repeat
        refine wpL_look rfl rfl ?_; apply Exists.intro; refine ⟨?_, ?_⟩
        focus
         rintro w' s0; go_simp
         first | done | rfl
        simp only [Act.put, sA, sZ, sS]
       refine wpL_act rfl rfl ?_; refine eff_call 84 #[.int .i64 n] ?hrq1 ?_
       case hrq1 =>
        go_simp
        first | done | rfl
       refine (hito _ (iBB _ (bel w _))).mono ?_; rintro e w' ⟨rfl, hb⟩; obtain ⟨q1, rfl⟩ := hb.rest; clear hb; refine ⟨_, rfl, .inl (by go_simp), ?_⟩; simp only [Act.put, sA, sZ, sS]
       repeat
        refine wpL_look rfl rfl ?_; apply Exists.intro; refine ⟨?_, ?_⟩
        focus
         rintro w' s0; go_simp
         first | done | rfl
        simp only [Act.put, sA, sZ, sS]
       refine wpL_act rfl rfl ?_; refine eff_call 85 #[.string xdat] ?hrq2 ?_
       case hrq2 =>
        go_simp
        first | done | rfl
       refine (hhex _).mono ?_; rintro e w' ⟨rfl, hb⟩; obtain ⟨q2, rfl⟩ := hb.rest; clear hb; refine ⟨_, rfl, .inl (by go_simp), ?_⟩; simp only [Act.put, sA, sZ, sS]; refine wpL_do rfl rfl ?_; apply Exists.intro; apply Exists.intro; refine ⟨?_, ?_, ?_⟩
       focus
        go_simp; exact ⟨rfl, rfl⟩
       focus
        refine .inl ?_; go_simp
       simp only [Act.put, sA, sZ, sS]; refine wpL_act rfl rfl ?_; refine eff_call 83 #[.pointer (some ⟨b, 0, none⟩), .slice (some ⟨w.heap.size + ((p.drew.more q1).more q2).len, 0, none⟩) 4 4] ?hr3 ?_
       case hr3 =>
        go_simp
        first | done | rfl
       refine (hlin [⟨#[102]⟩, ⟨#[47]⟩, itoaB n, hexM xdat] _ t _ 4 (bel w _) (Blk.new_i _ _ _ _) (by simp) (by simp) rfl HL.out).mono ?_; rintro e w2 ⟨rfl, h2, hb2⟩; refine ⟨_, rfl, .inr ⟨rfl, rfl⟩, ?_⟩; simp only [Act.put, sA, sZ, sS]; refine wpL_end ?_; have HW2 := Lib.hid (And.intro h2 ((iBB _ (bel w _)).trans hb2)); clear h2 hb2; go_wp2_with fail; exact bodyPost_ret (v := .tuple #[]) (by simp [results, go_sem]) rfl ⟨rfl, HW2.out⟩
   · simp only [if_true] at hlen ⊢; have hokE : ∀ e ∈ xe, wlkOk S f e.num = true := by
      intro e he; simp at hok; exact hok e he
     have hnE : ∀ e ∈ xe, I64 e.num := (hwf.2.2.2.1 _ hxm).2.2; have hxl : xe.length ≤ 1000000000 := (hwf.2.2.2.1 _ hxm).2.1; generalize hF : (fun e : PEnt => wlkT S f e.num (s ++ ⟨#[47]⟩ ++ e.name)) = F at hlen ⊢; have hlF : ∀ (q : Nat) (e : PEnt) (T0 : List UInt8), (t ++ (T0 ++ xe.flatMap F)).length ≤ 1000000000000 → xe[q]? = some e → (t ++ (T0 ++ (xe.take q).flatMap F) ++ wlkT S f e.num (s ++ ⟨#[47]⟩ ++ e.name)).length ≤ 1000000000000 ∧ (s ++ ⟨#[47]⟩ ++ e.name).size ≤ 1000000000000 ∧ t ++ (T0 ++ (xe.take q).flatMap F) ++ wlkT S f e.num (s ++ ⟨#[47]⟩ ++ e.name) = t ++ (T0 ++ (xe.take (q + 1)).flatMap F) := by
      intro q e T0 hl he; have h1 := flatMap_take F xe q e he; have h2 := flatMap_take_le F xe (q + 1); have h3 := wlkT_path (S := S) (f := f) (n := e.num) (s ++ ⟨#[47]⟩ ++ e.name) (hokE e (mG he)); have h4 : F e = wlkT S f e.num (s ++ ⟨#[47]⟩ ++ e.name) := by rw [← hF]
      rw [h1, h4, lP] at h2; simp only [lP] at hl ⊢; refine ⟨by omega, by omega, ?_⟩; rw [h1, h4]; simp
     have hre : ∀ wr, Below B w wr → Below w0.heap.size w0 wr := fun wr h => hb0.trans (h.mono hB0)
     have hevn := hev.at_; obtain ⟨ae, ce, rfl, hat⟩ := hevn; rw [lM] at y2; have hcel : ∀ wr, Below B w wr → BlockLt bi wr ∧ wr.cell? ⟨bi, off + K * 4 + 2, none⟩ = some (.slice ae xe.length ce) := fun wr h => by
      obtain ⟨h1, _, _, h2, _⟩ := hcl wr (hre wr h); rw [lM] at h2; exact ⟨h1, h2⟩
     have hrec : ∀ (q : Nat) (e : PEnt) (T0 : List UInt8) (ww : World), xe[q]? = some e → Below B w ww → (t ++ (T0 ++ xe.flatMap F)).length ≤ 1000000000000 → IsWr B b (.pointer (some ⟨p0, 0, none⟩)) (Lib.byteCells (t ++ (T0 ++ (xe.take q).flatMap F))) ww → B ≤ ww.heap.size →
      Calls Tryz.prog 132 #[.pointer (some ⟨b, 0, none⟩), .int .i64 e.num, .string (s ++ ⟨#[47]⟩ ++ e.name)] ww fun e w' => e = .returned (.tuple #[]) ∧ IsWr B b (.pointer (some ⟨p0, 0, none⟩)) (Lib.byteCells (t ++ (T0 ++ (xe.take (q + 1)).flatMap F))) w' ∧ Below B ww w' := fun q e T0 ww he hb hl hw hB => by
      obtain ⟨h1, h2, h3⟩ := hlF q e T0 hl he; have := ih e.num (s ++ ⟨#[47]⟩ ++ e.name) _ ww (hokE e (mG he)) (hnE e (mG he)) h1 (hL.below hb) hw hB; rw [h3] at this; exact this
     have hszE : ∀ (q : Nat) (e : PEnt) (T0 : List UInt8), (t ++ (T0 ++ xe.flatMap F)).length ≤ 1000000000000 → xe[q]? = some e → (s ++ ⟨#[47]⟩ ++ e.name).size ≤ 1000000000000 := fun q e T0 hl he => (hlF q e T0 hl he).2.1
     have HE := Lib.hid hat; clear hok hL hW hcl hati hr hev ih hd hwf hlF hat hokE hnE hF; rcases hemp : s.toList.isEmpty with _ | _
     · have hs : shownM s = s := by unfold shownM; rw [hemp]; rfl
       rw [hs] at hlen ⊢; have HL := Lib.hid hlen; have hl0 : (t ++ lineM [⟨#[100]⟩, s, itoaB n]).length ≤ 1000000000000 := by simp only [lP] at hlen ⊢; omega
       generalize hT : lineM [⟨#[100]⟩, s, itoaB n] = T0 at HL; clear hlen
       go_enter Tryz.func132, Tryz.ntmps132
       go_upto_region 7 with (first | (go_at_call 161; refine aT (hino _ (bel _ _)) fun p => ?_) | (go_at_call 84; refine aT (hito _ (iBB _ (bel w _))) fun q1 => ?_) | (go_at_call 83; refine (hlin [⟨#[100]⟩, s, itoaB n] _ t _ 3 (bel w _) (Blk.new_i _ _ _ _) (by simp) (by simp) rfl hl0).mono ?_; rintro e w2 ⟨rfl, h2, hb2⟩))
       rw [hT] at h2; have hbw2 := (iBB _ (bel w _)).trans hb2; obtain ⟨iG2, y2'⟩ := hcel w2 hbw2; have iW2 : BlockLt b w2 := ⟨h2.lt⟩
       have HW2 := Lib.hid h2; clear h2 y2 hcel; go_wp2_with fail
       go_loopw [43] (fun i wr => ∃ q : Nat, i = .int .i64 q ∧ q ≤ xe.length ∧ IsWr B b (.pointer (some ⟨p0, 0, none⟩)) (Lib.byteCells (t ++ (T0 ++ (xe.take q).flatMap F))) wr ∧ Below B w wr) (fun i _ => (xe.length - intOf i).toNat)
       case atStart => exact ⟨0, rfl, by omega, by simpa using HW2.out, hbw2⟩
       case round =>
        obtain ⟨q, rfl, hq, hwr, hbr⟩ := hrel; have hBr : B ≤ wr.heap.size := Nat.le_trans hBw hbr.size; by_cases hlt : q < xe.length
        · obtain ⟨e, he⟩ : ∃ e, xe[q]? = some e := ⟨_, gE hlt⟩
          obtain ⟨be, oe, rfl, iE0, iE, hce⟩ := HE.out wr (hre wr hbr) q e.cells (by rw [gM, he]; rfl); have e0 := hce 0 _ rfl; have e1 := hce 1 _ rfl; rw [Nat.add_zero] at e0; have hsz1 := hszE q e T0 HL.out he; rw [ByteArray.size_append, ByteArray.size_append] at hsz1; have hone : (⟨#[47]⟩ : ByteArray).size = 1 := rfl; rw [hone] at hsz1; have g1 : ¬ 9223372036854775807 < s.size + 1 := by omega
          have g2 : ¬ 9223372036854775807 < s.size + 1 + e.name.size := by omega
          have hcall : ∀ ww, Below wr.heap.size wr ww → Calls Tryz.prog 132 #[.pointer (some ⟨b, 0, none⟩), .int .i64 e.num, .string (s ++ ⟨#[47]⟩ ++ e.name)] ww _ := fun ww hb => hrec q e T0 ww he (hbr.trans (hb.mono hBr)) HL.out (hwr.below hb) (Nat.le_trans hBr hb.size)
          have HC := Lib.hid hcall; have iB : Bel wr wr := inferInstance; clear hce he hsz1 hwr; go_wp2_with (go_at_call 132; refine (hcall _ (bel wr _)).mono ?_; rintro e w3 ⟨rfl, h3, hb3⟩)
          go_roundw
          case rel => exact ⟨q + 1, by go_num, by omega, h3, hbr.trans (((bel wr _).mono hBr).trans hb3)⟩
          case measure => simp [intOf]; omega
        · rw [List.take_of_length_le (by omega)] at hwr; have HW3 := Lib.hid (And.intro hwr hbr); clear hwr hbr; go_wp2_with fail; exact bodyPost_end (v := .tuple #[]) (by simp [results, go_sem]) rfl ⟨rfl, HW3.out⟩
     · have hs : shownM s = ⟨#[47]⟩ := by unfold shownM; rw [hemp]; rfl
       rw [hs] at hlen ⊢; have HL := Lib.hid hlen; have hl0 : (t ++ lineM [⟨#[100]⟩, ⟨#[47]⟩, itoaB n]).length ≤ 1000000000000 := by simp only [lP] at hlen ⊢; omega
       generalize hT : lineM [⟨#[100]⟩, ⟨#[47]⟩, itoaB n] = T0 at HL; clear hlen
       go_enter Tryz.func132, Tryz.ntmps132
       go_upto_region 7 with (first | (go_at_call 161; refine aT (hino _ (bel _ _)) fun p => ?_) | (go_at_call 84; refine aT (hito _ (iBB _ (bel w _))) fun q1 => ?_) | (go_at_call 83; refine (hlin [⟨#[100]⟩, ⟨#[47]⟩, itoaB n] _ t _ 3 (bel w _) (Blk.new_i _ _ _ _) (by simp) (by simp) rfl hl0).mono ?_; rintro e w2 ⟨rfl, h2, hb2⟩))
       rw [hT] at h2; have hbw2 := (iBB _ (bel w _)).trans hb2; obtain ⟨iG2, y2'⟩ := hcel w2 hbw2; have iW2 : BlockLt b w2 := ⟨h2.lt⟩
       have HW2 := Lib.hid h2; clear h2 y2 hcel; go_wp2_with fail
       go_loopw [43] (fun i wr => ∃ q : Nat, i = .int .i64 q ∧ q ≤ xe.length ∧ IsWr B b (.pointer (some ⟨p0, 0, none⟩)) (Lib.byteCells (t ++ (T0 ++ (xe.take q).flatMap F))) wr ∧ Below B w wr) (fun i _ => (xe.length - intOf i).toNat)
       case atStart => exact ⟨0, rfl, by omega, by simpa using HW2.out, hbw2⟩
       case round =>
        obtain ⟨q, rfl, hq, hwr, hbr⟩ := hrel; have hBr : B ≤ wr.heap.size := Nat.le_trans hBw hbr.size; by_cases hlt : q < xe.length
        · obtain ⟨e, he⟩ : ∃ e, xe[q]? = some e := ⟨_, gE hlt⟩
          obtain ⟨be, oe, rfl, iE0, iE, hce⟩ := HE.out wr (hre wr hbr) q e.cells (by rw [gM, he]; rfl); have e0 := hce 0 _ rfl; have e1 := hce 1 _ rfl; rw [Nat.add_zero] at e0; have hsz1 := hszE q e T0 HL.out he; rw [ByteArray.size_append, ByteArray.size_append] at hsz1; have hone : (⟨#[47]⟩ : ByteArray).size = 1 := rfl; rw [hone] at hsz1; have g1 : ¬ 9223372036854775807 < s.size + 1 := by omega
          have g2 : ¬ 9223372036854775807 < s.size + 1 + e.name.size := by omega
          have hcall : ∀ ww, Below wr.heap.size wr ww → Calls Tryz.prog 132 #[.pointer (some ⟨b, 0, none⟩), .int .i64 e.num, .string (s ++ ⟨#[47]⟩ ++ e.name)] ww _ := fun ww hb => hrec q e T0 ww he (hbr.trans (hb.mono hBr)) HL.out (hwr.below hb) (Nat.le_trans hBr hb.size)
          have HC := Lib.hid hcall; have iB : Bel wr wr := inferInstance; clear hce he hsz1 hwr; go_wp2_with (go_at_call 132; refine (hcall _ (bel wr _)).mono ?_; rintro e w3 ⟨rfl, h3, hb3⟩)
          go_roundw
          case rel => exact ⟨q + 1, by go_num, by omega, h3, hbr.trans (((bel wr _).mono hBr).trans hb3)⟩
          case measure => simp [intOf]; omega
        · rw [List.take_of_length_le (by omega)] at hwr; have HW3 := Lib.hid (And.intro hwr hbr); clear hwr hbr; go_wp2_with fail; exact bodyPost_end (v := .tuple #[]) (by simp [results, go_sem]) rfl ⟨rfl, HW3.out⟩
theorem Laid.pow {B : Nat} {w : World} (h : Laid B Pow10 w) : Pow10 w := by
 obtain ⟨w0, h0, h1, h2⟩ := h
 exact Lib.tabBelow_of_tabIs h0 w h2
theorem lineM_ne (ws : List ByteArray) : lineM ws ≠ [] := by unfold lineM; simp
theorem wlkT_ne {S : PSt} {f : Nat} {n : Int} (p : ByteArray) (h : wlkOk S f n = true) : wlkT S f n p ≠ [] := by
 rcases f with _ | f
 · cases h
 unfold wlkOk at h
 simp only [Bool.and_eq_true] at h
 unfold wlkT
 rcases hx : S.ins[(idxM (isNum n) S.ins).toNat]? with _ | x
 · rw [hx] at h; simp at h
 · simp only; by_cases hd : x.dir = true
   · rw [if_pos hd]; intro e; exact lineM_ne _ (List.append_eq_nil_iff.1 e).1
   · rw [if_neg hd]; exact lineM_ne _
theorem IsWr.fresh (w : World) (sv : Value) : IsWr w.heap.size w.heap.size sv (Lib.byteCells []) (w.alloc (.cells #[sv, .pointer none, .slice none 0 0] 124)) :=
 .inl ⟨Nat.le_refl _, _, heap_alloc_new w _, by simp [Lib.byteCells], .inl ⟨rfl, rfl⟩⟩
def filesT (S : PSt) (f : Nat) : List UInt8 := wlkT S f 1 ⟨#[]⟩
theorem files81 (iv ov mv : Value) (S : PSt) (f : Nat) (w : World) (h : StRead w iv ov mv S) (hwf : S.wf) (hm : mayM S = true) (hd : ∀ x ∈ S.ins, x.data.size ≤ 1000000) (hok : wlkOk S f 1 = true) (hlen : (filesT S f).length ≤ 1000000000000) (hp : Laid w.heap.size Pow10 w) :
 Calls Tryz.prog 81 #[.agg #[iv, ov, mv]] w fun e w' => e = .returned (.tuple #[.string ⟨(filesT S f).toArray⟩, .int .i64 0]) ∧ Below w.heap.size w w' := by
 have hmay : ∀ ww, Below w.heap.size w ww → Calls Tryz.prog 37 #[.agg #[iv, ov, mv]] ww fun e w' => e = .returned (.bool true) ∧ Below ww.heap.size ww w' := fun ww hb => by
  have := may37 iv ov mv S ww (h.below hb (Nat.le_refl _)) hwf; rw [hm] at this; exact this
 have hio : iv.oneCell' = true := by obtain ⟨_, _, _, h3, _⟩ := h; exact h3.one
 have hoo := h.1.one
 have hmo := h.2.1.one
 have hwalk : ∀ (wb ww : World) (B p0 : Nat), B = wb.heap.size → Below w.heap.size w wb → Blk wb p0 #[iv, ov, mv] 27 → ww = wb.alloc (.cells #[.pointer (some ⟨p0, 0, none⟩), .pointer none, .slice none 0 0] 124) →
  Calls Tryz.prog 132 #[.pointer (some ⟨B, 0, none⟩), .int .i64 1, .string ⟨#[]⟩] ww fun e w' => e = .returned (.tuple #[]) ∧ IsWr B B (.pointer (some ⟨p0, 0, none⟩)) (Lib.byteCells (filesT S f)) w' ∧ Below B ww w' := fun wb ww B p0 hB hb hblk hww => by
  subst hB; subst hww; have hl : Laid wb.heap.size (Shw p0 S) wb := Laid.at_ ⟨SP.of_blk hblk (h.below hb (Nat.le_refl _)), (hp.below hb).pow⟩; exact walk132 wb.heap.size wb.heap.size p0 S hwf hd f 1 ⟨#[]⟩ [] _ hok (by unfold I64; omega) (by simpa [filesT] using hlen) (hl.below (bel wb _)) (IsWr.fresh _ _) (by simp)
 have hne : filesT S f ≠ [] := wlkT_ne _ hok
 clear h hwf hm hd hok hp
 go_enter Tryz.func81, Tryz.ntmps81
 go_wp2_with (first | (go_at_call 37; refine aT (hmay _ (bel _ _)) fun p => ?_))
 go_wp2_with (go_at_call 132; refine (hwalk ((w.alloc (Obj.cells #[iv, ov, mv] 27)).junk p) _ _ w.heap.size (by simp) (bel _ _) ((Blk.new _ _ _).junk p) rfl).mono ?_; rintro e w2 ⟨rfl, h2, hb2⟩)
 have hs2 := hb2.size
 simp at hs2
 have h2' := wr_text (w.heap.size + 1 + p.len) (w.heap.size + 1 + p.len) _ (filesT S f) w2 h2 hne
 have HB := Lib.hid (((bel w ((((w.alloc (Obj.cells #[iv, ov, mv] 27)).junk p).alloc (.cells #[.pointer (some ⟨w.heap.size, 0, none⟩), .pointer none, .slice none 0 0] 124)))).mono (Nat.le_refl _)).trans (hb2.mono (by omega)))
 clear hb2 h2 hs2
 go_wp2_with (go_at_call 88; refine h2'.mono ?_; rintro e w3 ⟨rfl, hb3⟩)
 exact bodyPost_ret (v := .tuple #[.string ⟨(filesT S f).toArray⟩, .int .i64 0]) (by unfold results; simp only [Tryz.results81]; go_simp) rfl ⟨rfl, HB.out.trans (hb3.mono (by omega))⟩
theorem bytes_inj {a b : ByteArray} (h : a.data.toList = b.data.toList) : a = b := by
 rcases a with ⟨a⟩
 rcases b with ⟨b⟩
 exact congrArg ByteArray.mk (Array.toList_inj.1 h)
def unT (S : PSt) (x : PIn) : List UInt8 := if (!x.dir && decide (linksM S x.num = 0)) = true then lineM [⟨#[117]⟩, itoaB x.num, hexM x.data] else []
def opT (d : PDesc) : List UInt8 := lineM [⟨#[111]⟩, itoaB d.core, itoaB d.fd, itoaB d.num]
def mdT (n : Int) : List UInt8 := 32 :: Lib.itoa n
def restT (S : PSt) : List UInt8 := S.ins.flatMap (unT S) ++ (S.op.flatMap opT ++ (109 :: S.made.flatMap mdT))
def shapeT (S : PSt) (f : Nat) : List UInt8 := filesT S f ++ restT S ++ [10]
theorem of43 (iv ov mv : Value) (S : PSt) (f : Nat) (w : World) (h : StRead w iv ov mv S) (hwf : S.wf) (hm : mayM S = true) (hd : ∀ x ∈ S.ins, x.data.size ≤ 1000000) (hok : wlkOk S f 1 = true) (hlen : (shapeT S f).length ≤ 1000000000000) (hp : Laid w.heap.size Pow10 w) :
 Calls Tryz.prog 43 #[.agg #[iv, ov, mv]] w fun e w' => e = .returned (.tuple #[.string ⟨(shapeT S f).toArray⟩, .int .i64 0]) ∧ Below w.heap.size w w' := by
 have hfiles : ∀ ww, Below w.heap.size w ww → Calls Tryz.prog 81 #[.agg #[iv, ov, mv]] ww fun e w' => e = .returned (.tuple #[.string ⟨(filesT S f).toArray⟩, .int .i64 0]) ∧ Below ww.heap.size ww w' := fun ww hb =>
  files81 iv ov mv S f ww (h.below hb (Nat.le_refl _)) hwf hm hd hok (by unfold shapeT at hlen; simp only [lP] at hlen; omega) ((hp.below hb).up hb.size)
 have hlinks : ∀ ww n, Below w.heap.size w ww → Calls Tryz.prog 82 #[.agg #[iv, ov, mv], .int .i64 n] ww fun e w' => e = .returned (.int .i64 (linksM S n)) ∧ Below ww.heap.size ww w' := fun ww n hb => links82 iv ov mv S n ww (h.below hb (Nat.le_refl _)) hwf
 have hito : ∀ ww n, Below w.heap.size w ww → I64 n → Calls Tryz.prog 84 #[.int .i64 n] ww fun e w' => e = .returned (.string (itoaB n)) ∧ Below ww.heap.size ww w' := fun ww n hb hn => itoa84 w.heap.size n hn ww (hp.below hb)
 obtain ⟨ai, capi, rfl, hati⟩ := h.ins_at2
 obtain ⟨ao, co, rfl, hato⟩ := h.1.at_
 obtain ⟨am, cm, rfl, hatm⟩ := h.2.1.at_
 simp only [lM] at hfiles hlinks ⊢
 obtain ⟨FT, hFT⟩ : ∃ FT, filesT S f = FT := ⟨_, rfl⟩
 obtain ⟨ST, hST⟩ : ∃ ST, shapeT S f = ST := ⟨_, rfl⟩
 rw [hFT] at hfiles
 rw [hST] at hlen ⊢
 have hST' : FT ++ restT S ++ [10] = ST := by rw [← hFT]; exact hST
 have HST := Lib.hid hST'
 have HI := Lib.hid (And.intro hati (And.intro hato hatm))
 have HW := Lib.hid (And.intro hwf hd)
 clear hFT hST hST' hati hato hatm h hm hok hp hwf hd
 go_enter Tryz.func43, Tryz.ntmps43
 go_upto_region 4 with (first | (go_at_call 81; refine aT (hfiles _ (bel _ _)) fun p => ?_))
 obtain ⟨wb, hwb⟩ : ∃ wb, (w.alloc (Obj.cells #[.slice ai S.ins.length capi, .slice ao S.op.length co, .slice am S.made.length cm] 27)).junk p = wb := ⟨_, rfl⟩
 have hbb : Below w.heap.size w wb := by rw [← hwb]; exact bel _ _
 have hbox : Blk wb w.heap.size #[.slice ai S.ins.length capi, .slice ao S.op.length co, .slice am S.made.length cm] 27 := by rw [← hwb]; exact (Blk.new _ _ _).junk p
 rw [hwb]
 have hbxl := hbox.lt.lt
 have hre : ∀ wr, Below wb.heap.size wb wr → Below w.heap.size w wr := fun wr h => hbb.trans (h.mono hbb.size)
 have hboxr : ∀ wr, Below wb.heap.size wb wr → Blk wr w.heap.size #[.slice ai S.ins.length capi, .slice ao S.op.length co, .slice am S.made.length cm] 27 := fun wr h => hbox.below h hbxl
 have hW : S.ins.flatMap (unT S) ++ (S.op.flatMap opT ++ (109 :: S.made.flatMap mdT)) = restT S := rfl
 have hrl : (restT S).length + FT.length + 1 ≤ 1000000000000 := by
  have := HST.out; rw [← this] at hlen; simp only [lP, List.length_cons, List.length_nil] at hlen; omega
 rw [← hW] at hrl
 have HWW := Lib.hid hW
 simp only [lP, List.length_cons] at hrl
 have hlin : ∀ (t : List UInt8) (ws : List ByteArray) (ww : World) (bk c : Nat), IsWr wb.heap.size wb.heap.size (.pointer (some ⟨w.heap.size, 0, none⟩)) (Lib.byteCells t) ww → Blk ww bk (ws.map Value.string).toArray 9 → ws.length ≤ c → ws.length ≤ 1000 → (t ++ lineM ws).length ≤ 1000000000000 → wb.heap.size ≤ ww.heap.size → Calls Tryz.prog 83 #[.pointer (some ⟨wb.heap.size, 0, none⟩), .slice (some ⟨bk, 0, none⟩) ws.length c] ww fun e w' => e = .returned (.tuple #[]) ∧ IsWr wb.heap.size wb.heap.size (.pointer (some ⟨w.heap.size, 0, none⟩)) (Lib.byteCells (t ++ lineM ws)) w' ∧ Below wb.heap.size ww w' := fun t ws ww bk c h1 h2 h3 h4 h5 h6 =>
  line83 _ _ _ t ws bk c ww h1 (strs_at ws h2) h2.lt.lt h3 h4 (by omega) h6
 have hlin' := S.ins.length
 have hwfl := HW.out.1
 have hl1 := hwfl.1
 have hl2 := hwfl.2.1
 have hl3 := hwfl.2.2.1
 have HL2 := Lib.hid (And.intro hlen hbox)
 have b0 := hbox.cell 0
 have b1 := hbox.cell 1
 have b2 := hbox.cell 2
 have iX := hbox.lt
 clear hwb hbox hlen hwfl hlin' hW
 go_upto_region 5 with fail
 go_wp2_with fail
 go_loopw [26] (fun i wr => ∃ q : Nat, i = .int .i64 q ∧ q ≤ S.ins.length ∧ IsWr wb.heap.size wb.heap.size (.pointer (some ⟨w.heap.size, 0, none⟩)) (Lib.byteCells ((S.ins.take q).flatMap (unT S))) wr ∧ Below wb.heap.size wb wr) (fun i _ => (S.ins.length - intOf i).toNat)
 case atStart => exact ⟨0, rfl, by omega, by simpa using IsWr.fresh wb _, bel _ _⟩
 case round =>
  obtain ⟨q, rfl, hq, hwr, hbr⟩ := hrel; have iB : Bel w wr := ⟨hre wr hbr⟩
  have hBr : wb.heap.size ≤ wr.heap.size := hbr.size; by_cases hlt : q < S.ins.length
  · obtain ⟨x, hx⟩ : ∃ x, S.ins[q]? = some x := ⟨_, gE hlt⟩
    obtain ⟨bi, off, ev, rfl, iG0, ho1, hev, hcl⟩ := HI.out.1 q x hx; obtain ⟨iG, y0, y1, y2, y3⟩ := hcl wr (hre wr hbr); have hbx := hboxr wr hbr; have z0 := hbx.cell 0; have z1 := hbx.cell 1; have z2 := hbx.cell 2; have iXr := hbx.lt; have hn := (HW.out.1.2.2.2.1 x (mG hx)).1; have hdx := HW.out.2 x (mG hx); have hft := flatMap_take (unT S) S.ins q x hx; have hfl := flatMap_take_le (unT S) S.ins (q + 1); generalize hU : (S.ins.take q).flatMap (unT S) = U at hwr hft; rw [hft] at hfl; have hux : unT S x = if (!x.dir && decide (linksM S x.num = 0)) = true then lineM [⟨#[117]⟩, itoaB x.num, hexM x.data] else [] := rfl
    obtain ⟨xn, xd, xe, xdat⟩ := x; obtain ⟨ae, ce, rfl, _⟩ := hev.at_; simp only at y0 y1 y2 y3 hn hdx hux; rw [lM] at y2; have hlk := fun ww (h : Below w.heap.size w ww) => hlinks ww xn h
    have hhex : ∀ ww, Calls Tryz.prog 85 #[.string xdat] ww fun e w' => e = .returned (.string (hexM xdat)) ∧ Below ww.heap.size ww w' := fun ww => hex85 xdat (by omega) ww
    have hwk : ∀ ww, Below wr.heap.size wr ww → IsWr wb.heap.size wb.heap.size (.pointer (some ⟨w.heap.size, 0, none⟩)) (Lib.byteCells U) ww := fun ww hb => hwr.below hb
    have hLf := hfl; clear hcl hev hx hU hbx; rcases xd with _ | _
    · simp only [Bool.not_false, Bool.true_and] at hux; by_cases hl0 : linksM S xn = 0
      · rw [if_pos (by simpa using hl0)] at hux; have hll : (U ++ lineM [⟨#[117]⟩, itoaB xn, hexM xdat]).length ≤ 1000000000000 := by rw [hux] at hfl; omega
        rw [hl0] at hlk; rw [hux] at hft; have HF := Lib.hid hft; clear hux hfl hft hl0 hLf
        go_upto_region 9 with (go_at_call 82; refine aT (hlk _ (bel _ _)) fun p => ?_)
        refine wp_region_eff [3, 6, 7, 8] true (fun w' => w'.cell? ⟨wr.heap.size, 0, none⟩ = some (.int .i64 xn) ∧ w'.cell? ⟨wr.heap.size, 3, none⟩ = some (.string xdat)) (by kernel_rfl) (by kernel_rfl) ?_ ?_
        · (try dsimp only); (repeat' apply And.intro) <;> go_simp
        repeat
         refine wpL_look rfl rfl ?_; apply Exists.intro; refine ⟨?_, ?_⟩
         focus
          rintro w' ⟨s0, s1⟩; go_simp
          first | done | rfl
         simp only [Act.put, sA, sZ, sS]
        refine wpL_act rfl rfl ?_; refine eff_call 84 #[.int .i64 xn] ?hrq1 ?_
        case hrq1 =>
         go_simp
         first | done | rfl
        refine (hito _ xn (bel w _) hn).mono ?_; rintro e w' ⟨rfl, hb⟩; obtain ⟨q1, rfl⟩ := hb.rest; clear hb; refine ⟨_, rfl, .inl ?_, ?_⟩
        · (try dsimp only); (repeat' apply And.intro) <;> go_simp
        simp only [Act.put, sA, sZ, sS]
        repeat
         refine wpL_look rfl rfl ?_; apply Exists.intro; refine ⟨?_, ?_⟩
         focus
          rintro w' ⟨s0, s1⟩; go_simp
          first | done | rfl
         simp only [Act.put, sA, sZ, sS]
        refine wpL_act rfl rfl ?_; refine eff_call 85 #[.string xdat] ?hrq2 ?_
        case hrq2 =>
         go_simp
         first | done | rfl
        refine (hhex _).mono ?_; rintro e w' ⟨rfl, hb⟩; obtain ⟨q2, rfl⟩ := hb.rest; clear hb; refine ⟨_, rfl, .inl ?_, ?_⟩
        · (try dsimp only); (repeat' apply And.intro) <;> go_simp
        simp only [Act.put, sA, sZ, sS]; refine wpL_do rfl rfl ?_; apply Exists.intro; apply Exists.intro; refine ⟨?_, ?_, ?_⟩
        focus
         go_simp; exact ⟨rfl, rfl⟩
        focus
         refine .inl ?_
         (try dsimp only); (repeat' apply And.intro) <;> go_simp
        simp only [Act.put, sA, sZ, sS]; refine wpL_act rfl rfl ?_; refine eff_call 83 #[.pointer (some ⟨wb.heap.size, 0, none⟩), .slice (some ⟨wr.heap.size + 1 + ((p.drew.more q1).more q2).len, 0, none⟩) 3 3] ?hrl ?_
        case hrl =>
         go_simp
         first | done | rfl
        refine (hlin U [⟨#[117]⟩, itoaB xn, hexM xdat] _ _ 3 (hwk _ (bel wr _)) (Blk.new_i _ _ _ _) (by simp) (by simp) hll (Nat.le_trans hBr (bel wr _).size)).mono ?_; rintro e w4 ⟨rfl, h4, hb4⟩; refine ⟨_, rfl, .inr ⟨rfl, rfl⟩, ?_⟩; simp only [Act.put, sA, sZ, sS]; refine wpL_end ?_; have HW4 := Lib.hid (And.intro h4 (hbr.trans (((bel wr _).mono hBr).trans hb4))); clear h4 hb4; go_wp2_with fail
        go_roundw
        case rel => exact ⟨q + 1, by go_num, by omega, by rw [HF.out]; exact HW4.out.1, HW4.out.2⟩
        case measure => simp [intOf]; omega
      · rw [if_neg (by simpa using hl0)] at hux; have hl1 : ((linksM S xn : Int) == 0) = false := by simpa using hl0
        rw [hux, List.append_nil] at hft; have HF := Lib.hid hft; clear hux hfl hft hLf; go_wp2_with (go_at_call 82; refine aT (hlk _ (bel _ _)) fun p => ?_)
        go_roundw
        case rel => exact ⟨q + 1, by go_num, by omega, by rw [HF.out]; exact hwk _ (bel wr _), hbr.trans ((bel wr _).mono hBr)⟩
        case measure => simp [intOf]; omega
    · simp only [Bool.not_true, Bool.false_and, Bool.false_eq_true, if_false] at hux; rw [hux, List.append_nil] at hft; have HF := Lib.hid hft; clear hux hfl hft hLf; go_wp2_with (go_at_call 82; refine aT (hlk _ (bel _ _)) fun p => ?_)
      go_roundw
      case rel => exact ⟨q + 1, by go_num, by omega, by rw [HF.out]; exact hwk _ (bel wr _), hbr.trans ((bel wr _).mono hBr)⟩
      case measure => simp [intOf]; omega
  · rw [List.take_of_length_le (by omega)] at hwr; have HU := Lib.hid (And.intro hwr hbr); have hbx := hboxr wr hbr; have iXr := hbx.lt; have z1 := hbx.cell 1; have z2 := hbx.cell 2; have hBr := hbr.size; generalize S.ins.flatMap (unT S) = U at HU hrl HWW; clear hwr hbx hbr b0 b1 b2
    rename World => wA
    go_wp2_with fail
    go_loopw [53] (fun i wr => ∃ q : Nat, i = .int .i64 q ∧ q ≤ S.op.length ∧ IsWr wb.heap.size wb.heap.size (.pointer (some ⟨w.heap.size, 0, none⟩)) (Lib.byteCells (U ++ (S.op.take q).flatMap opT)) wr ∧ Below wb.heap.size wb wr) (fun i _ => (S.op.length - intOf i).toNat)
    case atStart => exact ⟨0, rfl, by omega, by simpa using HU.out.1, HU.out.2⟩
    case round =>
     obtain ⟨q, rfl, hq2, hwr, hbr⟩ := hrel; have iB2 : Bel w wr := ⟨hre wr hbr⟩
     have hBr2 : wb.heap.size ≤ wr.heap.size := hbr.size; by_cases hlt2 : q < S.op.length
     · obtain ⟨x, hx⟩ : ∃ x, S.op[q]? = some x := ⟨_, gE hlt2⟩
       obtain ⟨bo, oo, rfl, iO0, iO, hco⟩ := HI.out.2.1 wr (hre wr hbr) q x.cells (by rw [gM, hx]; rfl); have y0 := hco 0 _ rfl; have y1 := hco 1 _ rfl; have y2 := hco 2 _ rfl; rw [Nat.add_zero] at y0; have hn := HW.out.1.2.2.2.2.1 x (mG hx); have hft := flatMap_take opT S.op q x hx; have hfl := flatMap_take_le opT S.op (q + 1); rw [hft] at hfl; have hux : opT x = lineM [⟨#[111]⟩, itoaB x.core, itoaB x.fd, itoaB x.num] := rfl; rw [hux] at hft hfl; have hll : ((U ++ (S.op.take q).flatMap opT) ++ lineM [⟨#[111]⟩, itoaB x.core, itoaB x.fd, itoaB x.num]).length ≤ 1000000000000 := by simp only [lP] at hfl ⊢; omega
       have hft2 : U ++ (S.op.take (q + 1)).flatMap opT = (U ++ (S.op.take q).flatMap opT) ++ lineM [⟨#[111]⟩, itoaB x.core, itoaB x.fd, itoaB x.num] := by rw [hft, List.append_assoc]
       generalize hU2 : U ++ (S.op.take q).flatMap opT = U2 at hwr hll hft2; have hwk : ∀ ww, Below wr.heap.size wr ww → IsWr wb.heap.size wb.heap.size (.pointer (some ⟨w.heap.size, 0, none⟩)) (Lib.byteCells U2) ww := fun ww hb => hwr.below hb
       obtain ⟨xc, xf, xn⟩ := x; simp only at y0 y1 y2 hn hft2 hll; have HF := Lib.hid hft2; clear hco hx hU2 hft hfl hux hft2 z1 z2
       go_upto_region 14 with fail
       refine wp_region_eff [3, 6, 9, 10, 11] true (fun w' => w'.cell? ⟨wr.heap.size, 0, none⟩ = some (.int .i64 xc) ∧ w'.cell? ⟨wr.heap.size, 1, none⟩ = some (.int .i64 xf) ∧ w'.cell? ⟨wr.heap.size, 2, none⟩ = some (.int .i64 xn)) (by kernel_rfl) (by kernel_rfl) ?_ ?_
       · (try dsimp only); (repeat' apply And.intro) <;> go_simp
       repeat
        refine wpL_look rfl rfl ?_; apply Exists.intro; refine ⟨?_, ?_⟩
        focus
         rintro w' ⟨s0, s1, s2⟩; go_simp
         first | done | rfl
        simp only [Act.put, sA, sZ, sS]
       refine wpL_act rfl rfl ?_; refine eff_call 84 #[.int .i64 xc] ?hrq1 ?_
       case hrq1 =>
        go_simp
        first | done | rfl
       refine (hito _ xc (bel w _) hn.1).mono ?_; rintro e w' ⟨rfl, hb⟩; obtain ⟨q1, rfl⟩ := hb.rest; clear hb; refine ⟨_, rfl, .inl ?_, ?_⟩
       · (try dsimp only); (repeat' apply And.intro) <;> go_simp
       simp only [Act.put, sA, sZ, sS]
       repeat
        refine wpL_look rfl rfl ?_; apply Exists.intro; refine ⟨?_, ?_⟩
        focus
         rintro w' ⟨s0, s1, s2⟩; go_simp
         first | done | rfl
        simp only [Act.put, sA, sZ, sS]
       refine wpL_act rfl rfl ?_; refine eff_call 84 #[.int .i64 xf] ?hrq2 ?_
       case hrq2 =>
        go_simp
        first | done | rfl
       refine (hito _ xf (bel w _) hn.2.1).mono ?_; rintro e w' ⟨rfl, hb⟩; obtain ⟨q2, rfl⟩ := hb.rest; clear hb; refine ⟨_, rfl, .inl ?_, ?_⟩
       · (try dsimp only); (repeat' apply And.intro) <;> go_simp
       simp only [Act.put, sA, sZ, sS]
       repeat
        refine wpL_look rfl rfl ?_; apply Exists.intro; refine ⟨?_, ?_⟩
        focus
         rintro w' ⟨s0, s1, s2⟩; go_simp
         first | done | rfl
        simp only [Act.put, sA, sZ, sS]
       refine wpL_act rfl rfl ?_; refine eff_call 84 #[.int .i64 xn] ?hrq3 ?_
       case hrq3 =>
        go_simp
        first | done | rfl
       refine (hito _ xn (bel w _) hn.2.2).mono ?_; rintro e w' ⟨rfl, hb⟩; obtain ⟨q3, rfl⟩ := hb.rest; clear hb; refine ⟨_, rfl, .inl ?_, ?_⟩
       · (try dsimp only); (repeat' apply And.intro) <;> go_simp
       simp only [Act.put, sA, sZ, sS]; refine wpL_do rfl rfl ?_; apply Exists.intro; apply Exists.intro; refine ⟨?_, ?_, ?_⟩
       focus
        go_simp; exact ⟨rfl, rfl⟩
       focus
        refine .inl ?_
        (try dsimp only); (repeat' apply And.intro) <;> go_simp
       simp only [Act.put, sA, sZ, sS]; refine wpL_act rfl rfl ?_; refine eff_call 83 #[.pointer (some ⟨wb.heap.size, 0, none⟩), .slice (some ⟨wr.heap.size + 1 + (((q1).more q2).more q3).len, 0, none⟩) 4 4] ?hrl ?_
       case hrl =>
        go_simp
        first | done | rfl
       refine (hlin U2 [⟨#[111]⟩, itoaB xc, itoaB xf, itoaB xn] _ _ 4 (hwk _ (bel wr _)) (Blk.new_i _ _ _ _) (by simp) (by simp) hll (Nat.le_trans hBr2 (bel wr _).size)).mono ?_; rintro e w4 ⟨rfl, h4, hb4⟩; refine ⟨_, rfl, .inr ⟨rfl, rfl⟩, ?_⟩; simp only [Act.put, sA, sZ, sS]; refine wpL_end ?_; have HW4 := Lib.hid (And.intro h4 (hbr.trans (((bel wr _).mono hBr2).trans hb4))); clear h4 hb4; go_wp2_with fail
       go_roundw
       case rel => exact ⟨q + 1, by go_num, by omega, by rw [HF.out]; exact HW4.out.1, HW4.out.2⟩
       case measure => simp [intOf]; omega
     · rw [List.take_of_length_le (by omega)] at hwr; have HU2 := Lib.hid (And.intro hwr hbr); have hbx := hboxr wr hbr; have iXr2 := hbx.lt; have z2' := hbx.cell 2; clear hwr hbx hbr z1 z2
       rename World => wC
       generalize S.op.flatMap opT = O at HU2 hrl HWW; have hm1 : IsWr wb.heap.size wb.heap.size (.pointer (some ⟨w.heap.size, 0, none⟩)) (Lib.byteCells (U ++ O)) wC := HU2.out.1; have hCr : wb.heap.size ≤ wC.heap.size := HU2.out.2.size; have hmb := wr_byte wb.heap.size wb.heap.size (.pointer (some ⟨w.heap.size, 0, none⟩)) (Lib.byteCells (U ++ O)) 109 wC hm1 (by rw [Lib.byteCells_length, lP]; omega) hCr; clear hm1
       go_upto_region 17 with (go_at_call 86; refine hmb.mono ?_; rintro e w6 ⟨rfl, h6, hb6⟩)
       have h6' : IsWr wb.heap.size wb.heap.size (.pointer (some ⟨w.heap.size, 0, none⟩)) (Lib.byteCells (U ++ (O ++ [109]))) w6 := by
        have : Lib.byteCells (U ++ O) ++ [.int .u8 109] = Lib.byteCells (U ++ (O ++ [109])) := by rw [← List.append_assoc, Lib.byteCells_append (U ++ O) [109]]; rfl
        rw [← this]; exact .inr h6
       have hbA := HU2.out.2.trans hb6; have HU6 := Lib.hid (And.intro h6' hbA); have hbx6 := hboxr w6 hbA; have iX6 := hbx6.lt; have z6 := hbx6.cell 2; clear h6 h6' hb6 hbx6 z2' hmb; go_wp2_with fail
       go_loopw [77] (fun i wr => ∃ q : Nat, i = .int .i64 q ∧ q ≤ S.made.length ∧ IsWr wb.heap.size wb.heap.size (.pointer (some ⟨w.heap.size, 0, none⟩)) (Lib.byteCells (U ++ (O ++ (109 :: (S.made.take q).flatMap mdT)))) wr ∧ Below wb.heap.size wb wr) (fun i _ => (S.made.length - intOf i).toNat)
       case atStart => exact ⟨0, rfl, by omega, by simpa using HU6.out.1, hbA⟩
       case round =>
        obtain ⟨q, rfl, hq3, hwr, hbr⟩ := hrel; have iB3 : Bel w wr := ⟨hre wr hbr⟩
        have hBr3 : wb.heap.size ≤ wr.heap.size := hbr.size; by_cases hlt3 : q < S.made.length
        · obtain ⟨n, hx⟩ : ∃ n, S.made[q]? = some n := ⟨_, gE hlt3⟩
          obtain ⟨bo, oo, rfl, iO0, iO, hco⟩ := HI.out.2.2 wr (hre wr hbr) q (intCells n) (by rw [gM, hx]; rfl); have y0 := hco 0 _ rfl; rw [Nat.mul_one, Nat.add_zero] at y0; have hn := HW.out.1.2.2.2.2.2 n (mG hx); have hft := flatMap_take mdT S.made q n hx; have hfl := flatMap_take_le mdT S.made (q + 1); rw [hft] at hfl; have hux : mdT n = 32 :: Lib.itoa n := rfl; rw [hux] at hft hfl; simp only [lP, List.length_cons] at hfl; have hft2 : U ++ (O ++ (109 :: (S.made.take (q + 1)).flatMap mdT)) = (U ++ (O ++ (109 :: (S.made.take q).flatMap mdT))) ++ (32 :: Lib.itoa n) := by rw [hft]; simp only [List.append_assoc, List.cons_append]
          have hll : (U ++ (O ++ (109 :: (S.made.take q).flatMap mdT))).length + (1 + (Lib.itoa n).length) ≤ 1000000000000 := by simp only [lP, List.length_cons]; omega
          generalize hU2 : U ++ (O ++ (109 :: (S.made.take q).flatMap mdT)) = U2 at hwr hll hft2; have hsi : (itoaB n).size = (Lib.itoa n).length := by unfold itoaB; simp [ByteArray.size]
          have hgd : ¬ 9223372036854775807 < 1 + (itoaB n).size := by omega
          have hstr : ∀ ww, Below wr.heap.size wr ww → Calls Tryz.prog 87 #[.pointer (some ⟨wb.heap.size, 1, none⟩), .string ((⟨#[32]⟩ : ByteArray) ++ itoaB n)] ww fun e w' => ∃ k : Int, e = .returned (.tuple #[.int .i64 k, .nilIface]) ∧ IsWr wb.heap.size wb.heap.size (.pointer (some ⟨w.heap.size, 0, none⟩)) (Lib.byteCells (U2 ++ (32 :: Lib.itoa n))) w' ∧ Below wb.heap.size ww w' := fun ww hb => by
           refine (wr_str wb.heap.size wb.heap.size (.pointer (some ⟨w.heap.size, 0, none⟩)) (Lib.byteCells U2) ((⟨#[32]⟩ : ByteArray) ++ itoaB n) ww (hwr.below hb) ?_ (Nat.le_trans hBr3 hb.size)).mono ?_
           · rw [Lib.byteCells_length, ByteArray.size_append, hsi]; have e1 : (⟨#[32]⟩ : ByteArray).size = 1 := rfl; omega
           · rintro e w' ⟨rfl, h1, h2⟩; have e2 : ((⟨#[32]⟩ : ByteArray) ++ itoaB n).data.toList = 32 :: Lib.itoa n := by simp [itoaB]
             rw [byteCells_app, e2] at h1; exact ⟨_, rfl, .inr h1, h2⟩
          have HF := Lib.hid hft2; clear hco hx hU2 hft hfl hux hft2 z6 hsi
          go_upto_region 20 with fail
          refine wp_region_eff [4, 6] true (fun w' => True) (by kernel_rfl) (by kernel_rfl) trivial ?_
          repeat
           refine wpL_look rfl rfl ?_; apply Exists.intro; refine ⟨?_, ?_⟩
           focus
            rintro w' _; go_simp
            first | done | rfl
           simp only [Act.put, sA, sZ, sS]
          refine wpL_act rfl rfl ?_; refine eff_call 84 #[.int .i64 n] ?hrq1 ?_
          case hrq1 =>
           go_simp
           first | done | rfl
          refine (hito _ n (bel w _) hn).mono ?_; rintro e w' ⟨rfl, hb⟩; obtain ⟨q1, rfl⟩ := hb.rest; clear hb; refine ⟨_, rfl, .inl ?_, ?_⟩
          · trivial
          simp only [Act.put, sA, sZ, sS]
          repeat
           refine wpL_look rfl rfl ?_; apply Exists.intro; refine ⟨?_, ?_⟩
           focus
            rintro w' _; go_simp
            first | done | rfl
           simp only [Act.put, sA, sZ, sS]
          refine wpL_act rfl rfl ?_; refine eff_call 87 #[.pointer (some ⟨wb.heap.size, 1, none⟩), .string (({ data := #[32] } : ByteArray) ++ itoaB n)] ?hrl ?_
          case hrl =>
           go_simp
           first | done | rfl
          refine (hstr _ (bel wr _)).mono ?_; rintro e w4 ⟨k, rfl, h4, hb4⟩; refine ⟨_, rfl, .inr ⟨rfl, rfl⟩, ?_⟩; simp only [Act.put, sA, sZ, sS]; refine wpL_end ?_; have HW4 := Lib.hid (And.intro h4 (hbr.trans (((bel wr _).mono hBr3).trans hb4))); clear h4 hb4; go_wp2_with fail
          go_roundw
          case rel => exact ⟨q + 1, by go_num, by omega, by rw [HF.out]; exact HW4.out.1, HW4.out.2⟩
          case measure => simp [intOf]; omega
        · rw [List.take_of_length_le (by omega)] at hwr; have hne : U ++ (O ++ (109 :: S.made.flatMap mdT)) ≠ [] := by simp
          have hT := wr_text wb.heap.size wb.heap.size (.pointer (some ⟨w.heap.size, 0, none⟩)) (U ++ (O ++ (109 :: S.made.flatMap mdT))) wr hwr hne; generalize S.made.flatMap mdT = M at hT HWW hrl hwr hne; generalize hTT : U ++ (O ++ (109 :: M)) = T at hT HWW hwr hne; have hTl : T.length = U.length + (O.length + (M.length + 1)) := by rw [← hTT]; simp
          have hg1 : ¬ 9223372036854775807 < FT.length + T.length := by omega
          have hg2 : ¬ 9223372036854775807 < FT.length + T.length + 1 := by omega
          have heq : (⟨FT.toArray⟩ : ByteArray) ++ ⟨T.toArray⟩ ++ ⟨#[10]⟩ = ⟨ST.toArray⟩ := by
           have h1 := HST.out; rw [← HWW.out] at h1; refine bytes_inj ?_; rw [← h1]; simp
          have HFIN := Lib.hid (And.intro hbr (And.intro heq hBr3)); clear hbr heq hwr hTT hne; go_wp2_with (go_at_call 88; refine hT.mono ?_; rintro e w7 ⟨rfl, hb7⟩)
          exact bodyPost_ret (v := .tuple #[.string ⟨ST.toArray⟩, .int .i64 0]) (by unfold results; simp only [Tryz.results43]; go_simp; exact HFIN.out.2.1) rfl ⟨rfl, (hre wr HFIN.out.1).trans (hb7.mono (Nat.le_trans hbb.size (Nat.le_refl _)))⟩
theorem same22 (iv ov mv iv' ov' mv' : Value) (S : PSt) (f : Nat) (w : World) (h : StRead w iv ov mv S) (h' : StRead w iv' ov' mv' S) (hwf : S.wf) (hm : mayM S = true) (hd : ∀ x ∈ S.ins, x.data.size ≤ 1000000) (hok : wlkOk S f 1 = true) (hlen : (shapeT S f).length ≤ 1000000000000) (hp : Laid w.heap.size Pow10 w) :
 Calls Tryz.prog 22 #[.agg #[iv, ov, mv], .agg #[iv', ov', mv']] w fun e w' => e = .returned (.bool true) ∧ Below w.heap.size w w' := by
 have h1 : ∀ ww, Below w.heap.size w ww → Calls Tryz.prog 43 #[.agg #[iv, ov, mv]] ww _ := fun ww hb => of43 iv ov mv S f ww (h.below hb (Nat.le_refl _)) hwf hm hd hok hlen ((hp.below hb).up hb.size)
 have h2 : ∀ ww, Below w.heap.size w ww → Calls Tryz.prog 43 #[.agg #[iv', ov', mv']] ww _ := fun ww hb => of43 iv' ov' mv' S f ww (h'.below hb (Nat.le_refl _)) hwf hm hd hok hlen ((hp.below hb).up hb.size)
 have hio : iv.oneCell' = true := by obtain ⟨_, _, _, h3, _⟩ := h; exact h3.one
 have hoo := h.1.one
 have hmo := h.2.1.one
 have hio' : iv'.oneCell' = true := by obtain ⟨_, _, _, h3, _⟩ := h'; exact h3.one
 have hoo' := h'.1.one
 have hmo' := h'.2.1.one
 generalize shapeT S f = T at h1 h2
 clear h h' hwf hm hd hok hlen hp
 go_enter Tryz.func22, Tryz.ntmps22
 go_wp2_with (first | (go_at_call 43; with_reducible refine aT (h1 _ (bel _ _)) fun p => ?_) | (go_at_call 43; with_reducible refine aT (h2 _ (bel _ _)) fun p => ?_))
 go_ret
 exact ⟨by first | rfl | simp, bel _ _⟩
end Go.Proofs.YtjkenolgkkknaaaGreatDoor
