/- doer.create. Conditions: none. -/
import Derived.Test.YtmkapobnfigedaaGreatDoorEl26
import Derived.Test.YtmkapobnfigedaaGreatDoorEl21
set_option linter.unusedVariables false
set_option linter.unusedSimpArgs false
namespace Go.Proofs.YtmkapobnfigedaaGreatDoor
open Go.RowKit
def madeSt (S : PSt) (c : PCall) (K : Nat) (x : PIn) (l : ByteArray) (m : Int) : PSt :=
 { ins := insAt (S.ents K x (insAt x.ents (bsE x.ents l) ⟨l, 2 + c.core + 8 * m⟩)).ins (bsND S.nums (2 + c.core + 8 * m)) ⟨2 + c.core + 8 * m, c.kind == 1, [], { data := #[] }⟩, op := S.op, made := S.made.set c.core.toNat (m + 1) }
def createM (S : PSt) (c : PCall) (r : PRes) : Except Int (PSt × PRes) :=
 match parentM S (parseM c.path).2 with
 | .error k => .error k
 | .ok (K, l) => match S.ins[K]? with
   | none => .error 0
   | some x => if hitE x.ents l = true then .error 2 else match S.made[c.core.toNat]? with
     | none => .error 0
     | some m => if (fullM x.ents l { data := #[] } || decide (32 ≤ m)) = true then .error 5 else .ok (madeSt S c K x l m, r)
structure Small (S : PSt) : Prop where
 ins : S.ins.length ≤ 257
 ents : ∀ x ∈ S.ins, x.ents.length ≤ 100000
 made : S.made.length ≤ 8
 each : ∀ m ∈ S.made, 0 ≤ m ∧ m ≤ 32
structure Opened (B : Nat) (w : World) (d b bi gm : Nat) (capi capm : Nat) (ov nv : Value) (S : PSt) (c : PCall) (r : PRes) : Prop where
 hBb : B ≤ b
 hBd : B ≤ d
 hD : Blk w d (doCells b c r nv) 136
 hb : Blk w b #[.slice (some ⟨bi, 0, none⟩) S.ins.length capi, ov, .slice (some ⟨gm, 0, none⟩) S.made.length capm] 26
 st : StOwn B w (.slice (some ⟨bi, 0, none⟩) S.ins.length capi) ov (.slice (some ⟨gm, 0, none⟩) S.made.length capm) S
 nm : OwnP B w 9 1 nv (r.names.map strCells)
theorem DoAt.open_ {B : Nat} {w : World} {d b : Nat} {S : PSt} {c : PCall} {r : PRes} (h : DoAt B w d b S c r) (h1 : 0 < S.ins.length) (h2 : 0 < S.made.length) : ∃ bi gm capi capm ov nv, Opened B w d b bi gm capi capm ov nv S c r := by
 obtain ⟨iv, ov, mv, nv, hBb, hBd, hD, hbk, hst, hnv⟩ := h
 have hst' := hst
 obtain ⟨o1, o2, is, o3, o4, _⟩ := hst'
 obtain ⟨gm, capm, rfl, _⟩ := o2.some_ (by rw [List.length_map]; exact h2)
 obtain ⟨bi, capi, rfl, _⟩ := o3.some_ (by rw [List.length_map, o4]; exact h1)
 rw [List.length_map] at hbk hst
 rw [List.length_map, o4] at hbk hst
 exact ⟨bi, gm, capi, capm, ov, nv, hBb, hBd, hD, hbk, hst, hnv⟩
theorem Opened.below {B : Nat} {w w' : World} {d b bi gm capi capm : Nat} {ov nv : Value} {S : PSt} {c : PCall} {r : PRes} (h : Opened B w d b bi gm capi capm ov nv S c r) (hb : Below w.heap.size w w') : Opened B w' d b bi gm capi capm ov nv S c r := by
 have hk : Keep (fun _ => False) w w' := Keep.of_below hb _
 exact ⟨h.hBb, h.hBd, hk.blk h.hD id, hk.blk h.hb id, h.st.keep hk (fun _ h => h.elim), h.nm.keep hk (fun _ _ h => h)⟩
theorem Opened.at_ {B : Nat} {w : World} {d b bi gm capi capm : Nat} {ov nv : Value} {S : PSt} {c : PCall} {r : PRes} (h : Opened B w d b bi gm capi capm ov nv S c r) : DoAt B w d b S c r :=
 ⟨_, _, _, _, h.hBb, h.hBd, h.hD, h.hb, h.st, h.nm⟩
structure Reads (w : World) (d b bi gm : Nat) (capi capm : Nat) (S : PSt) (c : PCall) : Prop where
 d0 : w.cell? ⟨d, 0, none⟩ = some (.pointer (some ⟨b, 0, none⟩))
 d1 : w.cell? ⟨d, 1, none⟩ = some (.int .i64 c.kind)
 d2 : w.cell? ⟨d, 2, none⟩ = some (.int .i64 c.core)
 d6 : w.cell? ⟨d, 6, none⟩ = some (.string c.path)
 b0 : w.cell? ⟨b, 0, none⟩ = some (.slice (some ⟨bi, 0, none⟩) S.ins.length capi)
 b2 : w.cell? ⟨b, 2, none⟩ = some (.slice (some ⟨gm, 0, none⟩) S.made.length capm)
 fb0 : w.frozen? ⟨b, 0, none⟩ = false
 iD : BlockLt d w
 iB : BlockLt b w
theorem Opened.reads {B : Nat} {w : World} {d b bi gm capi capm : Nat} {ov nv : Value} {S : PSt} {c : PCall} {r : PRes} (h : Opened B w d b bi gm capi capm ov nv S c r) : Reads w d b bi gm capi capm S c :=
 ⟨h.hD.cell 0, h.hD.cell 1, h.hD.cell 2, h.hD.cell 6, h.hb.cell 0, h.hb.cell 2, h.hb.frozen 0, h.hD.lt, h.hb.lt⟩
theorem Opened.made_at {B : Nat} {w : World} {d b bi gm capi capm : Nat} {ov nv : Value} {S : PSt} {c : PCall} {r : PRes} (h : Opened B w d b bi gm capi capm ov nv S c r) {k : Nat} {m : Int} (hm : S.made[k]? = some m) :
 BlockLt gm w ∧ w.cell? ⟨gm, k, none⟩ = some (.int .i64 m) ∧ w.frozen? ⟨gm, k, none⟩ = false := by
 obtain ⟨_, h2, _⟩ := h.st
 rcases h2 with ⟨h0, _⟩ | ⟨g, cap', arr, heq, hgB, hgb, hnc, hcm, hsz, hri⟩
 · simp at h0
 simp only [Value.slice.injEq, Option.some.injEq, Addr.mk.injEq] at heq
 obtain ⟨⟨rfl, -, -⟩, -, rfl⟩ := heq
 refine ⟨hgb.lt, ?_, hgb.frozen _⟩
 have := hri k (intCells m) (by rw [List.getElem?_map, hm]; rfl) 0 _ rfl
 rw [Nat.mul_one, Nat.add_zero] at this
 rw [hgb.cell]
 exact this
theorem Opened.ino_at {B : Nat} {w : World} {d b bi gm capi capm : Nat} {ov nv : Value} {S : PSt} {c : PCall} {r : PRes} (h : Opened B w d b bi gm capi capm ov nv S c r) {K : Nat} {x : PIn} (hx : S.ins[K]? = some x) :
 BlockLt bi w ∧ ∃ ev, w.cell? ⟨bi, K * 4 + 2, none⟩ = some ev ∧ RowAt w 2 ev (x.ents.map PEnt.cells) := by
 obtain ⟨ai, capi', he, hat⟩ := h.st.read.ins_at2
 simp only [Value.slice.injEq] at he
 obtain ⟨rfl, -, rfl⟩ := he
 obtain ⟨bi', off', ev, he, iG, hone, hrow, hcl⟩ := hat K x hx
 simp only [Option.some.injEq, Addr.mk.injEq] at he
 obtain ⟨rfl, rfl, -⟩ := he
 obtain ⟨i1, -, -, y2, -⟩ := hcl w (Below.refl _ _)
 rw [Nat.zero_add] at y2
 exact ⟨i1, ev, y2, hrow⟩
theorem not_inEn {w : World} {g : Nat} {c : Array Value} {t : TypeId} (h : Blk w g c t) (h1 : t ≠ 68) (h2 : t ≠ 97) : ¬ InEn w g := by
 rintro ⟨c', t', hb, ht⟩
 rcases ht with rfl | rfl
 · exact h.ne_ hb h1 rfl
 · exact h.ne_ hb h2 rfl
theorem own_not_inEn {B : Nat} {w : World} {e : TypeId} {k : Nat} {v : Value} {rows : List (List Value)} (h : OwnP B w e k v rows) (h1 : e ≠ 68) (h2 : e ≠ 97) : ∀ g, v.ownBlock = some g → ¬ InEn w g := by
 intro g hg hi
 obtain ⟨c', t', hb, ht⟩ := hi
 rcases ht with rfl | rfl
 · exact h.ne_blk hb h1 hg rfl
 · exact h.ne_blk hb h2 hg rfl
end Go.Proofs.YtmkapobnfigedaaGreatDoor
