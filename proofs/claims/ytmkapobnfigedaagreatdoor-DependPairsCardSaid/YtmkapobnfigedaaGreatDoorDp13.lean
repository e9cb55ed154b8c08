/- Part of the proof of a law of chapter 15. Conditions: none. -/
import Derived.Test.YtmkapobnfigedaaGreatDoorDp11
set_option linter.unusedVariables false
set_option linter.unusedSimpArgs false
set_option maxRecDepth 100000
set_option maxHeartbeats 8000000
namespace Go.Proofs.YtmkapobnfigedaaGreatDoor
open Go.RowKit
theorem parent_ok {S : PSt} {ns : List ByteArray} {K : Nat} {l : ByteArray} (h : parentM S ns = .ok (K, l)) : ∃ x, S.ins[K]? = some x ∧ x.dir = true := by
 unfold parentM at h
 split at h
 · cases h
 split at h
 · cases h
 split at h
 · rename_i x hx
   split at h
   · rename_i hd
     cases h; exact ⟨x, hx, hd⟩
   · cases h
 · cases h
structure At1 (B : Nat) (w w1 : World) (d b bi gm capi capm : Nat) (ov nv : Value) (S : PSt) (c : PCall) (r : PRes) (K k : Nat) (x : PIn) (m : Int) (l : ByteArray) (ea : Option Addr) (ec : Nat) : Prop where
 below : Below w.heap.size w w1
 o : Opened B w1 d b bi gm capi capm ov nv S c r
 ent : ∀ ww, Below w1.heap.size w1 ww → Calls Tryz.prog 171 #[.slice ea x.ents.length ec, .string l] ww fun e w' => e = .returned (.tuple #[.int .i64 (bsE x.ents l), .bool (hitE x.ents l)]) ∧ Below ww.heap.size ww w'
 ful : ∀ ww, Below w1.heap.size w1 ww → Calls Tryz.prog 173 #[.pointer (some ⟨bi, K * 4, none⟩), .string l, .string { data := #[] }] ww fun e w' => e = .returned (.bool (fullM x.ents l { data := #[] })) ∧ Below ww.heap.size ww w'
 iBi : BlockLt bi w1
 y2 : w1.cell? ⟨bi, K * 4 + 2, none⟩ = some (.slice ea x.ents.length ec)
 iGm : BlockLt gm w1
 m0 : w1.cell? ⟨gm, k, none⟩ = some (.int .i64 m)
theorem at1 {B : Nat} {w w1 : World} {d b bi gm capi capm : Nat} {ov nv : Value} {S : PSt} {c : PCall} {r : PRes} {K k : Nat} {x : PIn} {m : Int} {l : ByteArray} (ho : Opened B w d b bi gm capi capm ov nv S c r) (hb : Below w.heap.size w w1) (hx : S.ins[K]? = some x) (hm : S.made[k]? = some m) (hs : Small S) :
 ∃ ea ec, At1 B w w1 d b bi gm capi capm ov nv S c r K k x m l ea ec := by
 have o1 := ho.below hb
 obtain ⟨iBi, ev, y2, hrow⟩ := o1.ino_at hx
 obtain ⟨iGm, m0, _⟩ := o1.made_at hm
 have hrow' := hrow
 obtain ⟨ea, ec, rfl, _⟩ := hrow'
 have hl := hs.ents x (mG hx)
 rw [lM] at y2 hrow
 refine ⟨ea, ec, hb, o1, fun ww hww => entry114 x.ents _ l ww (hrow.below hww (Nat.le_refl _)) (by omega), fun ww hww => full116 bi (K * 4) x.ents _ l _ ww ⟨by have := iBi.lt; have := hww.size; omega⟩ ((hww.cell (p := ⟨bi, K * 4 + 2, none⟩) iBi.lt).trans y2) (hrow.below hww (Nat.le_refl _)) (by omega), iBi, y2, iGm, m0⟩
theorem Opened.put {B : Nat} {w w3 : World} {d b bi gm capi capm K : Nat} {ov nv : Value} {S : PSt} {c : PCall} {r : PRes} {x : PIn} {es : List PEnt} (o : Opened B w d b bi gm capi capm ov nv S c r) (hk : Keep (InEn w) w w3)
 (hst : StOwn B w3 (.slice (some ⟨bi, 0, none⟩) S.ins.length capi) ov (.slice (some ⟨gm, 0, none⟩) S.made.length capm) (S.ents K x es)) : Opened B w3 d b bi gm capi capm ov nv (S.ents K x es) c r := by
 have hl : (S.ents K x es).ins.length = S.ins.length := by unfold PSt.ents; simp
 have hb := hk.blk o.hb (not_inEn o.hb (by decide) (by decide))
 refine ⟨o.hBb, o.hBd, hk.blk o.hD (not_inEn o.hD (by decide) (by decide)), ?_, ?_, o.nm.keep hk (own_not_inEn o.nm (by decide) (by decide))⟩
 · rw [hl]; exact hb
 · rw [hl]; exact hst
theorem Opened.setMade {B : Nat} {w : World} {d b bi gm capi capm k : Nat} {ov nv : Value} {S : PSt} {c : PCall} {r : PRes} (o : Opened B w d b bi gm capi capm ov nv S c r) (hk : k < S.made.length) (v : Int) :
 Opened B (w.setCell ⟨gm, k, none⟩ (.int .i64 v)) d b bi gm capi capm ov nv { S with made := S.made.set k v } c r ∧ B ≤ gm := by
 obtain ⟨h1, h2, cm, h3⟩ := o.st.setMade hk v
 have hK : Keep (fun x => x = gm) w (w.setCell ⟨gm, k, none⟩ (.int .i64 v)) := Keep.setCell (S := fun x => x = gm) (p := ⟨gm, k, none⟩) (Keep.refl _ _) (.inl rfl) _
 have hl : (S.made.set k v).length = S.made.length := List.length_set
 refine ⟨⟨o.hBb, o.hBd, hK.blk o.hD (o.hD.ne_ h3 (by decide)), ?_, ?_, o.nm.keep hK (fun g hg => o.nm.ne_blk h3 (by decide) hg)⟩, h2⟩
 · show Blk _ b #[_, ov, .slice (some ⟨gm, 0, none⟩) (S.made.set k v).length capm] 26; rw [hl]; exact hK.blk o.hb (o.hb.ne_ h3 (by decide))
 · show StOwn B _ _ ov (.slice (some ⟨gm, 0, none⟩) (S.made.set k v).length capm) _; rw [hl]; exact h1
theorem StOwn.search {B : Nat} {w : World} {iv ov mv : Value} {S : PSt} (h : StOwn B w iv ov mv S) (hl : S.ins.length ≤ 1000000000) (n : Int) : ∀ ww, Below w.heap.size w ww → Calls Tryz.prog 134 #[iv, .int .i64 n, .func (.func 176) #[] #[]] ww fun e w' => (∃ hit, e = .returned (.tuple #[.int .i64 (bsND S.nums n), .bool hit])) ∧ Below ww.heap.size ww w' := by
 intro ww hb
 obtain ⟨_, _, is, h3, h4, h5, _⟩ := h
 have hn : is.map IRec.num = S.nums := by
  apply List.ext_getElem?; intro q; rw [PSt.nums, gM, gM]; by_cases hq : q < is.length
  · have hq2 : q < S.ins.length := by omega
    have := (h5 q is[q] S.ins[q] (gE hq) (gE hq2)).1; rw [gE hq, gE hq2]; simp [this]
  · rw [List.getElem?_eq_none (by omega), List.getElem?_eq_none (by omega)]; rfl
 refine (bs119d is iv n ww (h3.row.below hb (Nat.le_refl _)) (by omega)).mono ?_
 rintro e w' ⟨rfl, hb'⟩
 rw [← hn, ← bsD_num]
 exact ⟨⟨_, rfl⟩, hb'⟩
theorem setIns2 {B : Nat} {w w1 : World} {iv' ov mv : Value} {S : PSt} {X : Nat → Prop} (is : List IRec) (h1 : OwnP B w 95 3 ov (S.op.map PDesc.cells)) (h2 : OwnP B w 3 1 mv (S.made.map intCells)) (h4 : is.length = S.ins.length)
 (h5 : ∀ (q : Nat) (r : IRec) (x : PIn), is[q]? = some r → S.ins[q]? = some x → r.num = x.num ∧ r.dir = x.dir ∧ r.data = x.data ∧ OwnP B w 97 2 r.ev (x.ents.map PEnt.cells)) (h6 : ∀ (p q : Nat) (r r' : IRec), p ≠ q → is[p]? = some r → is[q]? = some r' → ∀ g, r.ev.ownBlock = some g → r'.ev.ownBlock ≠ some g) (hk : Keep X w w1) (hX : ∀ g, X g → ∃ c, Blk w g c 68) (i : Nat) (hi : i ≤ S.ins.length) (num : Int) (dir : Bool)
 (hiv : OwnP B w1 68 4 iv' ((is.map IRec.cells).take i ++ [.int .i64 num, .bool dir, .slice none 0 0, .string { data := #[] }] :: (is.map IRec.cells).drop i)) :
 StOwn B w1 iv' ov mv { S with ins := insAt S.ins i ⟨num, dir, [], { data := #[] }⟩ } := by
 have key : ∀ {e : TypeId} {k : Nat} {v : Value} {rows : List (List Value)}, OwnP B w e k v rows → e ≠ 68 → OwnP B w1 e k v rows := by
  intro e k v rows ho he; refine ho.keep hk (fun g hg hx => ?_); obtain ⟨c, hc⟩ := hX g hx; exact ho.ne_blk hc he hg rfl
 have hrec : ∀ (q : Nat) (r : IRec) (x : PIn), is[q]? = some r → S.ins[q]? = some x → r.num = x.num ∧ r.dir = x.dir ∧ r.data = x.data ∧ OwnP B w1 97 2 r.ev (x.ents.map PEnt.cells) := fun q r x hr hx => by
  obtain ⟨a1, a2, a3, a4⟩ := h5 q r x hr hx; exact ⟨a1, a2, a3, key a4 (by decide)⟩
 refine ⟨key h1 (by decide), key h2 (by decide), insAt is i ⟨num, dir, .slice none 0 0, { data := #[] }, rfl⟩, ?_, ?_, ?_, ?_⟩
 · have := hiv; rw [insAt_map]; exact this
 · show (insAt is i _).length = (insAt S.ins i _).length; rw [insAt_len _ _ _ (by omega), insAt_len _ _ _ hi, h4]
 · intro q r x hr hx; have hx : (insAt S.ins i ⟨num, dir, [], { data := #[] }⟩)[q]? = some x := hx; rw [insAt_get _ _ _ (by omega)] at hr; rw [insAt_get _ _ _ hi] at hx; by_cases c1 : q < i
   · rw [if_pos c1] at hr hx; exact hrec q r x hr hx
   · rw [if_neg c1] at hr hx; by_cases c2 : q = i
     · rw [if_pos c2] at hr hx; cases hr; cases hx; exact ⟨rfl, rfl, rfl, .inl ⟨rfl, rfl⟩⟩
     · rw [if_neg c2] at hr hx; exact hrec (q - 1) r x hr hx
 · intro p q r r' hpq hp hq k hkk; rw [insAt_get _ _ _ (by omega)] at hp hq; have old : ∀ (p : Nat) (r : IRec), (if p < i then is[p]? else if p = i then some (⟨num, dir, .slice none 0 0, { data := #[] }, rfl⟩ : IRec) else is[p - 1]?) = some r → (p = i ∧ r.ev.ownBlock = none) ∨ (p ≠ i ∧ is[if p < i then p else p - 1]? = some r) := by
    intro p r hp; by_cases c1 : p < i
    · rw [if_pos c1] at hp; exact .inr ⟨by omega, by rw [if_pos c1]; exact hp⟩
    · rw [if_neg c1] at hp; by_cases c2 : p = i
      · rw [if_pos c2] at hp; cases hp; exact .inl ⟨c2, rfl⟩
      · rw [if_neg c2] at hp; exact .inr ⟨c2, by rw [if_neg c1]; exact hp⟩
   rcases old p r hp with ⟨_, h0⟩ | ⟨np, h0⟩
   · rw [h0] at hkk; cases hkk
   rcases old q r' hq with ⟨_, h1'⟩ | ⟨nq, h1'⟩
   · rw [h1']; exact fun h => by cases h
   refine h6 _ _ r r' ?_ h0 h1' k hkk
   split <;> split <;> omega
theorem made_state (S : PSt) (c : PCall) (K k : Nat) (x : PIn) (l : ByteArray) (m : Int) (hk : c.core = k) (hx : S.ins[K]? = some x) :
 madeSt S c K x l m = { ({ S.ents K x (insAt x.ents (bsE x.ents l) ⟨l, 2 + (k : Int) + 8 * m⟩) with made := S.made.set k (m + 1) } : PSt) with ins := insAt (S.ents K x (insAt x.ents (bsE x.ents l) ⟨l, 2 + (k : Int) + 8 * m⟩)).ins (bsND ({ S.ents K x (insAt x.ents (bsE x.ents l) ⟨l, 2 + (k : Int) + 8 * m⟩) with made := S.made.set k (m + 1) } : PSt).nums (2 + (k : Int) + 8 * m)) ⟨2 + (k : Int) + 8 * m, c.kind == 1, [], { data := #[] }⟩ } := by
 have hn : ({ S.ents K x (insAt x.ents (bsE x.ents l) ⟨l, 2 + (k : Int) + 8 * m⟩) with made := S.made.set k (m + 1) } : PSt).nums = S.nums := nums_ents S K x _ hx
 rw [hn]
 unfold madeSt
 rw [hk, Int.toNat_natCast]
 rfl
theorem create71 (B d b : Nat) (S : PSt) (c : PCall) (r : PRes) (w : World) (h : DoAt B w d b S c r) (hB : B ≤ w.heap.size) (hf : Fine S) (hs : Small S) (hp : (parseM c.path).1 = 0) (hpl : (parseM c.path).2.length ≤ 1000000000) (hc0 : 0 ≤ c.core) (hc1 : c.core < S.made.length) :
 Calls Tryz.prog 141 #[.pointer (some ⟨d, 0, none⟩)] w (RunOut B w d b c (createM S c r)) := by
 obtain ⟨bi, gm, capi, capm, ov, nv, ho⟩ := h.open_ hf.pos (by omega)
 have hpar : ∀ ww, Below w.heap.size w ww → Calls Tryz.prog 170 #[.pointer (some ⟨d, 0, none⟩), .string c.path] ww _ := fun ww hb => parent113 d b S c c.path ww (h.read.below hb (Nat.le_refl _)) hf hp hpl
 obtain ⟨d0, d1, d2, d6, b0, b2, -, iD, iBk⟩ := ho.reads
 unfold createM
 generalize hPM : parentM S (parseM c.path).2 = PM at hpar ⊢
 have HH := Lib.hid (And.intro ho (And.intro hf hs))
 rcases PM with k | ⟨K, l⟩
 · simp only; clear h ho hf hs hPM hp hpl b0 b2
   go_enter Tryz.func141, Tryz.ntmps141
   go_wp2_with (go_at_call 170; refine (hpar _ (bel _ _)).mono ?_; rintro e w1 ⟨hb1, hr⟩; have hr2 : e = thrown k := hr; clear hr; subst hr2)
   exact ⟨rfl, hb1.mono hB, rfl⟩
 · obtain ⟨x, hx, _⟩ := parent_ok hPM; obtain ⟨k, hk⟩ : ∃ k : Nat, c.core = k := ⟨c.core.toNat, by omega⟩
   have hkl : k < S.made.length := by omega
   obtain ⟨m, hm⟩ : ∃ m, S.made[k]? = some m := ⟨_, gE hkl⟩
   simp only [hx, hk, Int.toNat_natCast, hm]; have hm0 := hs.each m (mG hm); have hk8 : k < 8 := by have := hs.made; omega
   rw [hk] at d2; have hkI : (k : Int) < S.made.length := by omega
   have hat : ∀ w1, Below w.heap.size w w1 → ∃ ea ec, At1 B w w1 d b bi gm capi capm ov nv S c r K k x m l ea ec := fun w1 hb => at1 ho hb hx hm hs
   have HX := Lib.hid (And.intro hat (And.intro hx (And.intro hm (And.intro hk b0)))); clear h ho hf hs hPM hp hpl hat hx hm b0 b2; by_cases hhit : hitE x.ents l = true
   · rw [if_pos hhit]
     go_enter Tryz.func141, Tryz.ntmps141
     go_wp2_with (first | (go_at_call 170; refine (hpar _ (bel _ _)).mono ?_; rintro e w1 ⟨hb1, hr⟩; obtain ⟨bi', off', cap', hci, rfl⟩ : ∃ bi off cap, w.cell? ⟨b, 0, none⟩ = some (.slice (some ⟨bi, off, none⟩) S.ins.length cap) ∧ e = .returned (.tuple #[.pointer (some ⟨bi, off + K * 4, none⟩), .string l]) := hr; have hin := HX.out.2.2.2.2.symm.trans hci; simp only [Option.some.injEq, Value.slice.injEq, Addr.mk.injEq] at hin; obtain ⟨⟨rfl, rfl, -⟩, -, rfl⟩ := hin; rw [Nat.zero_add]; obtain ⟨ea, ec, h1⟩ := HX.out.1 w1 hb1; obtain ⟨e0, e1, e2, e6, g0, g2, fg0, iD1, iK1⟩ := h1.o.reads; rw [HX.out.2.2.2.1] at e2; have iBi := h1.iBi; have y2 := h1.y2; have iGm := h1.iGm; have m0 := h1.m0; have iW1 : Bel w w1 := ⟨hb1⟩; have HW1 := Lib.hid h1; clear hb1 hci) | (go_at_call 171; refine aT (h1.ent _ (bel _ _)) fun p => ?_) | (go_at_call 172; with_reducible refine aE (throw_yes _ _) fun p => ?_))
     exact ⟨rfl, ((HW1.out.below).trans ((bel w1 _).mono HW1.out.below.size)).mono hB, rfl⟩
   · rw [if_neg hhit]; have hhit : hitE x.ents l = false := by simpa using hhit
     have HHIT := Lib.hid hhit; generalize hfu : fullM x.ents l { data := #[] } = fu; have HFU := Lib.hid hfu; clear hfu; rcases fu with _ | _
     · by_cases h32 : 32 ≤ m
       · have h32b : decide (32 ≤ m) = true := decide_eq_true h32; rw [h32b]; simp only [Bool.or_true, if_true]
         go_enter Tryz.func141, Tryz.ntmps141
         go_wp2_with (first | (go_at_call 170; refine (hpar _ (bel _ _)).mono ?_; rintro e w1 ⟨hb1, hr⟩; obtain ⟨bi', off', cap', hci, rfl⟩ : ∃ bi off cap, w.cell? ⟨b, 0, none⟩ = some (.slice (some ⟨bi, off, none⟩) S.ins.length cap) ∧ e = .returned (.tuple #[.pointer (some ⟨bi, off + K * 4, none⟩), .string l]) := hr; have hin := HX.out.2.2.2.2.symm.trans hci; simp only [Option.some.injEq, Value.slice.injEq, Addr.mk.injEq] at hin; obtain ⟨⟨rfl, rfl, -⟩, -, rfl⟩ := hin; rw [Nat.zero_add]; obtain ⟨ea, ec, h1⟩ := HX.out.1 w1 hb1; obtain ⟨e0, e1, e2, e6, g0, g2, fg0, iD1, iK1⟩ := h1.o.reads; rw [HX.out.2.2.2.1] at e2; have iBi := h1.iBi; have y2 := h1.y2; have iGm := h1.iGm; have m0 := h1.m0; have iW1 : Bel w w1 := ⟨hb1⟩; have HW1 := Lib.hid h1; clear hb1 hci) | (go_at_call 171; refine aT (h1.ent _ (bel _ _)) fun p => ?_) | (go_at_call 172; with_reducible refine aT (throw_no _ _) fun p => ?_))
         refine wp_region_quiet_rest (by kernel_rfl) (by kernel_rfl) ?_
         repeat
          first
           | go_big_quiet_skip
           | (go_big_quiet_want; go_big_quiet_op; first | go_big_quiet_on | (apply Exists.intro; refine ⟨fun _ => ?_, ?_⟩; (focus (fail)); go_big_quiet_on))
         refine QN fun p => ?_; go_wp2_with (first | (go_at_call 173; refine (h1.ful _ (bel _ _)).mono ?_; rw [HFU.out]; rintro e w' ⟨rfl, hb⟩; obtain ⟨p, rfl⟩ := hb.rest; clear hb) | (go_at_call 172; with_reducible refine aE (throw_yes _ _) fun p => ?_))
         exact ⟨rfl, ((HW1.out.below).trans ((bel w1 _).mono HW1.out.below.size)).mono hB, rfl⟩
       · have h32b : decide (32 ≤ m) = false := decide_eq_false h32; rw [h32b]; simp only [Bool.or_false, Bool.false_eq_true, if_false]; rw [made_state S c K k x l m HX.out.2.2.2.1 HX.out.2.1]; obtain ⟨num, hnm⟩ : ∃ num, 2 + (k : Int) + 8 * m = num := ⟨_, rfl⟩
         have hnum : ∀ ww, Calls Tryz.prog 174 #[.int .i64 k, .int .i64 m] ww fun e w' => e = .returned (.int .i64 num) ∧ Below ww.heap.size ww w' := fun ww => by rw [← hnm]; exact num117 k m ⟨by omega, by omega⟩ ⟨hm0.1, by omega⟩ ww
         rw [hnm]; obtain ⟨S1, hS1⟩ : ∃ S1, S.ents K x (insAt x.ents (bsE x.ents l) ⟨l, num⟩) = S1 := ⟨_, rfl⟩
         have hput : ∀ (w1 : World) (ea : Option Addr) (ec : Nat), At1 B w w1 d b bi gm capi capm ov nv S c r K k x m l ea ec → ∀ ww, Below w1.heap.size w1 ww → Calls Tryz.prog 175 #[.pointer (some ⟨bi, K * 4, none⟩), .string l, .int .i64 num] ww _ := fun w1 ea ec h1 ww hb => put118 B ww ov (.slice (some ⟨gm, 0, none⟩) S.made.length capm) S bi capi K x l num (h1.o.below hb).st HX.out.2.1 (Nat.le_trans hB (Nat.le_trans h1.below.size hb.size)) (HH.out.2.2.ents x (mG HX.out.2.1))
         have hk1 : S1.made = S.made := by rw [← hS1]; rfl
         rw [hS1] at hput ⊢; have HS1 := Lib.hid (And.intro hS1 (And.intro hnm hk1)); clear hS1 hnm hk1; have hw8 : wrap64 (m + 1) = m + 1 := by simp only [wrap64]; omega
         have hw9 : IntKind.i64.wrap (m + 1) = m + 1 := I64.wrap ⟨by omega, by omega⟩
         go_enter Tryz.func141, Tryz.ntmps141
         go_wp2_with (first | (go_at_call 170; refine (hpar _ (bel _ _)).mono ?_; rintro e w1 ⟨hb1, hr⟩; obtain ⟨bi', off', cap', hci, rfl⟩ : ∃ bi off cap, w.cell? ⟨b, 0, none⟩ = some (.slice (some ⟨bi, off, none⟩) S.ins.length cap) ∧ e = .returned (.tuple #[.pointer (some ⟨bi, off + K * 4, none⟩), .string l]) := hr; have hin := HX.out.2.2.2.2.symm.trans hci; simp only [Option.some.injEq, Value.slice.injEq, Addr.mk.injEq] at hin; obtain ⟨⟨rfl, rfl, -⟩, -, rfl⟩ := hin; rw [Nat.zero_add]; obtain ⟨ea, ec, h1⟩ := HX.out.1 w1 hb1; obtain ⟨e0, e1, e2, e6, g0, g2, fg0, iD1, iK1⟩ := h1.o.reads; rw [HX.out.2.2.2.1] at e2; have iBi := h1.iBi; have y2 := h1.y2; have iGm := h1.iGm; have m0 := h1.m0; have iW1 : Bel w w1 := ⟨hb1⟩; have HW1 := Lib.hid h1; clear hb1 hci) | (go_at_call 171; refine aT (h1.ent _ (bel _ _)) fun p => ?_) | (go_at_call 172; with_reducible refine aT (throw_no _ _) fun p => ?_))
         refine wp_region_quiet_rest (by kernel_rfl) (by kernel_rfl) ?_
         repeat
          first
           | go_big_quiet_skip
           | (go_big_quiet_want; go_big_quiet_op; first | go_big_quiet_on | (apply Exists.intro; refine ⟨fun _ => ?_, ?_⟩; (focus (fail)); go_big_quiet_on))
         refine QN fun p => ?_; go_wp2_with (first | (go_at_call 173; refine (h1.ful _ (bel _ _)).mono ?_; rw [HFU.out]; rintro e w' ⟨rfl, hb⟩; obtain ⟨p, rfl⟩ := hb.rest; clear hb) | (go_at_call 172; with_reducible refine aT (throw_no _ _) fun p => ?_) | (go_at_call 174; refine aT (hnum _) fun p => ?_) | (go_at_call 175; refine (hput w1 _ _ HW1.out _ (bel w1 _)).mono ?_; rintro e w3 ⟨rfl, hb3, hk3, hs3⟩; rw [← HS1.out.1] at hs3; have o3 := Opened.put (HW1.out.o.below (bel w1 _)) hk3 hs3; rw [HS1.out.1] at o3; have hbw3 : Below B w w3 := ((bel w _).mono hB).trans hb3; obtain ⟨q0, q1, q2, q6, p0, p2, fq0, iD3, iK3⟩ := o3.reads; rw [HX.out.2.2.2.1] at q2; obtain ⟨iGm3, m3, fm3⟩ := o3.made_at (k := k) (m := m) (by rw [HS1.out.2.2]; exact HX.out.2.2.1); have HW3 := Lib.hid (And.intro o3 hbw3); clear hb3 hk3 hs3 o3 hbw3))
         have hk1l : k < S1.made.length := by rw [HS1.out.2.2]; exact hkl
         have hkI1 : (k : Int) < S1.made.length := by omega
         obtain ⟨o4, hBgm⟩ := (HW3.out.1.below ((Below.refl w3.heap.size w3).drew)).setMade hk1l (m + 1); obtain ⟨w4, hw4⟩ : ∃ w4, w3.drew.setCell ⟨gm, k, none⟩ (.int .i64 (m + 1)) = w4 := ⟨_, rfl⟩
         have hbw4 : Below B w w4 := by
          rw [← hw4]; have hk4 : Keep (fun x => x = gm) w3 (w3.drew.setCell ⟨gm, k, none⟩ (.int .i64 (m + 1))) := Keep.setCell (S := fun x => x = gm) (p := ⟨gm, k, none⟩) (Keep.refl _ w3).drew (.inl rfl) _; exact HW3.out.2.trans (hk4.below (Nat.le_trans hB HW3.out.2.size) (fun i hi h => by omega))
         rw [hw4] at o4; have hsch := o4.st.search (by
          have h1 : S1.ins.length = S.ins.length := by rw [← HS1.out.1]; unfold PSt.ents; simp
          show S1.ins.length ≤ 1000000000; have := HH.out.2.2.ins; omega) num
         obtain ⟨z0, z1, z2, z6, t0, t2, ft0, iD4, iK4⟩ := o4.reads; have t0 : w4.cell? ⟨b, 0, none⟩ = some (.slice (some ⟨bi, 0, none⟩) S1.ins.length capi) := t0; have HW4 := Lib.hid (And.intro o4 hbw4); clear o4 hbw4; refine wp_region_eff [16] true (fun w' => w'.cell? ⟨d, 0, none⟩ = some (.pointer (some ⟨b, 0, none⟩)) ∧ w'.cell? ⟨d, 2, none⟩ = some (.int .i64 k) ∧ w'.cell? ⟨b, 2, none⟩ = some (.slice (some ⟨gm, 0, none⟩) S1.made.length capm) ∧ w'.cell? ⟨gm, k, none⟩ = some (.int .i64 m)) (by kernel_rfl) (by kernel_rfl) ?_ ?_
         · (try dsimp only); (repeat' apply And.intro) <;> go_simp
         repeat
          refine wpL_look rfl rfl ?_; apply Exists.intro; refine ⟨?_, ?_⟩
          focus
           rintro w' ⟨s0, s1, s2, s3⟩; go_simp
           first | done | rfl
          simp only [Act.put, sA, sZ, sS]
         refine wpL_skip rfl rfl ?_; refine ⟨w4, ?_, .inr ⟨rfl, rfl⟩, ?_⟩
         focus
          go_simp
          first | done | exact hw4 | rfl
         simp only [Act.put, sA, sZ, sS]; refine wpL_end ?_; have HE4 := Lib.hid hw4; clear hw4; go_wp2_with (go_at_call 134; refine (hsch _ (bel w4 _)).mono ?_; rintro e w' ⟨⟨hit, rfl⟩, hb⟩; obtain ⟨p, rfl⟩ := hb.rest; clear hb)
         have hkd : (c.kind == 1) = (c.kind == 1) := rfl; refine wp_region_eff [20, 21, 24] true (fun w' => w'.cell? ⟨d, 0, none⟩ = some (.pointer (some ⟨b, 0, none⟩)) ∧ w'.cell? ⟨b, 0, none⟩ = some (.slice (some ⟨bi, 0, none⟩) S1.ins.length capi) ∧ w'.cell? ⟨d, 1, none⟩ = some (.int .i64 c.kind)) (by kernel_rfl) (by kernel_rfl) ?_ ?_
         · (try dsimp only); (repeat' apply And.intro) <;> go_simp
         repeat
          refine wpL_look rfl rfl ?_; apply Exists.intro; refine ⟨?_, ?_⟩
          focus
           rintro w' ⟨s0, s1, s2⟩; go_simp
           first | done | rfl
          simp only [Act.put, sA, sZ, sS]
         refine wpL_do rfl rfl ?_; apply Exists.intro; apply Exists.intro; refine ⟨?_, ?_, ?_⟩
         focus
          go_simp; exact ⟨rfl, rfl⟩
         focus
          refine .inl ⟨?_, ?_, ?_⟩ <;> go_simp
         simp only [Act.put, sA, sZ, sS]; obtain ⟨o4, hbw4⟩ := HW4.out; obtain ⟨u1, u2, is, u3, u4, u5, u6⟩ := o4.st; have u4 : is.length = S1.ins.length := u4; have hnl : ({ S1 with made := S1.made.set k (m + 1) } : PSt).nums.length = S1.ins.length := by unfold PSt.nums; rw [lM]
         have hbs := bsND_le ({ S1 with made := S1.made.set k (m + 1) } : PSt).nums num; have hsl : S1.ins.length ≤ 257 := by
          have h1 : S1.ins.length = S.ins.length := by rw [← HS1.out.1]; unfold PSt.ents; simp
          have := HH.out.2.2.ins; omega
         have hBw4 : B ≤ w4.heap.size := Nat.le_trans hB hbw4.size; have hins : ∀ ww gv, Below w4.heap.size w4 ww → w4.heap.size ≤ gv → Blk ww gv #[.int .i64 num, .bool (c.kind == 1), .slice none 0 0, .string { data := #[] }] 68 → Calls Tryz.prog 177 #[.slice (some ⟨bi, 0, none⟩) S1.ins.length capi, .int .i64 (bsND ({ S1 with made := S1.made.set k (m + 1) } : PSt).nums num), .slice (some ⟨gv, 0, none⟩) 1 1] ww _ := fun ww gv hb hg hgv =>
          insert121 B _ (is.map IRec.cells) (bsND ({ S1 with made := S1.made.set k (m + 1) } : PSt).nums num) gv [.int .i64 num, .bool (c.kind == 1), .slice none 0 0, .string { data := #[] }] ww (u3.keep (Keep.of_below hb (fun _ => False)) (fun _ _ h => h)) (irec_len _) (irec_one _) (by rw [lM]; omega) (by rw [lM]; omega) hgv rfl (by intro u hu; simp only [List.mem_cons, List.not_mem_nil, or_false] at hu; rcases hu with rfl | rfl | rfl | rfl <;> rfl) (fun e => by have := u3.lt e; omega) (Nat.le_trans hBw4 hb.size)
         refine wpL_act rfl rfl ?_; refine eff_call 177 #[.slice (some ⟨bi, 0, none⟩) S1.ins.length capi, .int .i64 (bsND ({ S1 with made := S1.made.set k (m + 1) } : PSt).nums num), .slice (some ⟨w4.heap.size + p.drew.len, 0, none⟩) 1 1] ?hr ?_
         case hr =>
          go_simp
          first | done | rfl
         refine (hins ((w4.junk p.drew).alloc (.cells #[.int .i64 num, .bool (c.kind == 1), .slice none 0 0, .string { data := #[] }] 68)) (w4.heap.size + p.drew.len) (bel w4 _) (by omega) (Blk.new_i _ _ _ _)).mono ?_; rintro e w5 ⟨v', rfl, ho5, hk5, _⟩; have hk45 := (Keep.of_below (bel w4 ((w4.junk p.drew).alloc (.cells #[.int .i64 num, .bool (c.kind == 1), .slice none 0 0, .string { data := #[] }] 68))) (fun g => (Value.slice (some ⟨bi, 0, none⟩) S1.ins.length capi).ownBlock = some g)).trans hk5 (fun _ _ h => h); have hbi : ∀ g, (Value.slice (some ⟨bi, 0, none⟩) S1.ins.length capi).ownBlock = some g → ∃ c, Blk w4 g c 68 := by
          intro g hg; rcases u3 with ⟨h0, _⟩ | ⟨g', _, arr, h0, _, hb', _⟩
          · simp at h0
          · simp only [Value.slice.injEq, Option.some.injEq, Addr.mk.injEq] at h0; obtain ⟨⟨rfl, -, -⟩, -, -⟩ := h0; simp only [Value.ownBlock, Option.some.injEq] at hg; subst hg; exact ⟨_, hb'⟩
         have hnb : ∀ {g : Nat} {cc : Array Value} {t : TypeId}, Blk w4 g cc t → t ≠ 68 → ¬ (Value.slice (some ⟨bi, 0, none⟩) S1.ins.length capi).ownBlock = some g := by
          intro g cc t hb ht hg; obtain ⟨c', hc'⟩ := hbi g hg; exact hb.ne_ hc' ht rfl
         have hst5 := setIns2 (S := { S1 with made := S1.made.set k (m + 1) }) is u1 u2 u4 u5 u6 hk45 hbi (bsND ({ S1 with made := S1.made.set k (m + 1) } : PSt).nums num) (by show _ ≤ S1.ins.length; omega) num (c.kind == 1) ho5; have hD5 := hk45.blk o4.hD (hnb o4.hD (by decide)); have hB5 := hk45.blk o4.hb (hnb o4.hb (by decide)); have hN5 := o4.nm.keep hk45 (fun g hg h => by
          obtain ⟨c', hc'⟩ := hbi g h; exact o4.nm.ne_blk hc' (by decide) hg rfl)
         have x0 : w5.cell? ⟨d, 0, none⟩ = some (.pointer (some ⟨b, 0, none⟩)) := hD5.cell 0; have x1 : w5.cell? ⟨d, 1, none⟩ = some (.int .i64 c.kind) := hD5.cell 1; have y0 : w5.cell? ⟨b, 0, none⟩ = some (.slice (some ⟨bi, 0, none⟩) S1.ins.length capi) := hB5.cell 0; have fy0 := hB5.frozen 0; have jD := hD5.lt; have jB := hB5.lt; obtain ⟨va, vn, vc, rfl⟩ := ho5.form; have hbw5 : Below B w w5 := hbw4.trans (hk45.below hBw4 (fun i hi h => by
          obtain ⟨_, _, is', h3', _⟩ := o4.st; have := h3'.ge h; omega))
         have H5 := Lib.hid (And.intro hst5 (And.intro hD5 (And.intro hB5 (And.intro hN5 (And.intro hbw5 (And.intro o4.hBb o4.hBd)))))); clear hst5 hD5 hB5 hN5 hk45 hk5 ho5 hbi hnb hins u1 u2 u3 u5 u6 o4 hbw4 hbw5; refine ⟨_, rfl, .inl ⟨x0, y0, x1⟩, ?_⟩; simp only [Act.put, sA, sZ, sS]
         repeat
          refine wpL_look rfl rfl ?_; apply Exists.intro; refine ⟨?_, ?_⟩
          focus
           rintro w' ⟨s0, s1, s2⟩; go_simp
           first | done | rfl
          simp only [Act.put, sA, sZ, sS]
         refine wpL_skip rfl rfl ?_; apply Exists.intro; refine ⟨?_, .inr ⟨rfl, rfl⟩, ?_⟩
         focus
          go_simp; rfl
         simp only [Act.put]; refine wpL_end ?_; obtain ⟨hst5, hD5, hB5, hN5, hbw5, e1, e2⟩ := H5.out; have hKb : Keep (fun g => g = b) w5 (w5.setCell ⟨b, 0, none⟩ (.slice va vn vc)) := Keep.setCell (S := fun g => g = b) (p := ⟨b, 0, none⟩) (Keep.refl _ _) (.inl rfl) _; have hfin : DoAt B (w5.setCell ⟨b, 0, none⟩ (.slice va vn vc)) d b { ({ S1 with made := S.made.set k (m + 1) } : PSt) with ins := insAt S1.ins (bsND ({ S1 with made := S.made.set k (m + 1) } : PSt).nums num) ⟨num, c.kind == 1, [], { data := #[] }⟩ } c r := by
          rw [← HS1.out.2.2]; exact ⟨_, _, _, nv, e1, e2, hKb.blk hD5 (hD5.ne_ hB5 (by decide)), hB5.set_ 0 _, hst5.keep hKb (fun g hg => by rw [hg]; exact ⟨_, 26, hB5, by decide, by decide, by decide, by decide⟩), hN5.keep hKb (fun g hg => hN5.ne_blk hB5 (by decide) hg)⟩
         exact bodyPost_end (v := .tuple #[]) (by simp [results, go_sem]) rfl ⟨hbw5.trans (hKb.below (Nat.le_trans hB hbw5.size) (fun i hi h => by omega)), rfl, hfin⟩
     · simp only [Bool.true_or, if_true]
       go_enter Tryz.func141, Tryz.ntmps141
       go_wp2_with (first | (go_at_call 170; refine (hpar _ (bel _ _)).mono ?_; rintro e w1 ⟨hb1, hr⟩; obtain ⟨bi', off', cap', hci, rfl⟩ : ∃ bi off cap, w.cell? ⟨b, 0, none⟩ = some (.slice (some ⟨bi, off, none⟩) S.ins.length cap) ∧ e = .returned (.tuple #[.pointer (some ⟨bi, off + K * 4, none⟩), .string l]) := hr; have hin := HX.out.2.2.2.2.symm.trans hci; simp only [Option.some.injEq, Value.slice.injEq, Addr.mk.injEq] at hin; obtain ⟨⟨rfl, rfl, -⟩, -, rfl⟩ := hin; rw [Nat.zero_add]; obtain ⟨ea, ec, h1⟩ := HX.out.1 w1 hb1; obtain ⟨e0, e1, e2, e6, g0, g2, fg0, iD1, iK1⟩ := h1.o.reads; rw [HX.out.2.2.2.1] at e2; have iBi := h1.iBi; have y2 := h1.y2; have iGm := h1.iGm; have m0 := h1.m0; have iW1 : Bel w w1 := ⟨hb1⟩; have HW1 := Lib.hid h1; clear hb1 hci) | (go_at_call 171; refine aT (h1.ent _ (bel _ _)) fun p => ?_) | (go_at_call 172; with_reducible refine aT (throw_no _ _) fun p => ?_))
       refine wp_region_quiet_rest (by kernel_rfl) (by kernel_rfl) ?_
       repeat
        first
         | go_big_quiet_skip
         | (go_big_quiet_want; go_big_quiet_op; first | go_big_quiet_on | (apply Exists.intro; refine ⟨fun _ => ?_, ?_⟩; (focus (fail)); go_big_quiet_on))
       refine QN fun p => ?_; go_wp2_with (first | (go_at_call 173; refine (h1.ful _ (bel _ _)).mono ?_; rw [HFU.out]; rintro e w' ⟨rfl, hb⟩; obtain ⟨p, rfl⟩ := hb.rest; clear hb) | (go_at_call 172; with_reducible refine aE (throw_yes _ _) fun p => ?_))
       exact ⟨rfl, ((HW1.out.below).trans ((bel w1 _).mono HW1.out.below.size)).mono hB, rfl⟩
def linkM2 (S : PSt) (x : PIn) (r : PRes) (K : Nat) (l : ByteArray) : Except Int (PSt × PRes) :=
 match S.ins[K]? with
 | none => .error 0
 | some y => if hitE y.ents l = true then .error 2 else if fullM y.ents l { data := #[] } = true then .error 5 else .ok (S.ents K y (insAt y.ents (bsE y.ents l) ⟨l, x.num⟩), r)
theorem Opened.at_call {B : Nat} {w : World} {d b bi gm capi capm : Nat} {ov nv : Value} {S : PSt} {c : PCall} {r : PRes} (o : Opened B w d b bi gm capi capm ov nv S c r) (hf : Fine S) (s : ByteArray) (hp : (parseM s).1 = 0) (hpl : (parseM s).2.length ≤ 1000000000) (K : Nat) (C : Int) (hW : walkM S 0 (parseM s).2 = (K, C)) :
 ∀ ww, Below w.heap.size w ww → Calls Tryz.prog 178 #[.pointer (some ⟨d, 0, none⟩), .string s] ww fun e w' => ((C = 0 ∧ e = .returned (.pointer (some ⟨bi, K * 4, none⟩))) ∨ (C ≠ 0 ∧ e = thrown C)) ∧ Below ww.heap.size ww w' := by
 intro ww hb
 refine (at122 d b S c s ww (o.at_.read.below hb (Nat.le_refl _)) hf hp hpl).mono ?_
 rintro e w' ⟨hb', ho⟩
 rw [hW] at ho
 refine ⟨?_, hb'⟩
 rcases ho with ⟨hC, bi', off', cap', hc, he⟩ | ⟨hC, he⟩
 · refine .inl ⟨hC, ?_⟩; have h2 := ((o.below hb).hb.cell 0).symm.trans hc; simp only [List.getElem?_toArray, List.getElem?_cons_zero, Option.some.injEq, Value.slice.injEq, Addr.mk.injEq] at h2; obtain ⟨⟨rfl, rfl, -⟩, -, rfl⟩ := h2; rw [he, Nat.zero_add]
 · exact .inr ⟨hC, he⟩
theorem Opened.parent_call {B : Nat} {w : World} {d b bi gm capi capm : Nat} {ov nv : Value} {S : PSt} {c : PCall} {r : PRes} (o : Opened B w d b bi gm capi capm ov nv S c r) (hf : Fine S) (s : ByteArray) (hp : (parseM s).1 = 0) (hpl : (parseM s).2.length ≤ 1000000000) (R : Except Int (Nat × ByteArray)) (hR : parentM S (parseM s).2 = R) :
 ∀ ww, Below w.heap.size w ww → Calls Tryz.prog 170 #[.pointer (some ⟨d, 0, none⟩), .string s] ww fun e w' => (match R with | .ok (K, l) => e = .returned (.tuple #[.pointer (some ⟨bi, K * 4, none⟩), .string l]) | .error k => e = thrown k) ∧ Below ww.heap.size ww w' := by
 intro ww hb
 refine (parent113 d b S c s ww (o.at_.read.below hb (Nat.le_refl _)) hf hp hpl).mono ?_
 rintro e w' ⟨hb', ho⟩
 rw [hR] at ho
 refine ⟨?_, hb'⟩
 rcases R with k | ⟨K, l⟩
 · exact ho
 · obtain ⟨bi', off', cap', hc, he⟩ := ho; have h2 := ((o.below hb).hb.cell 0).symm.trans hc; simp only [List.getElem?_toArray, List.getElem?_cons_zero, Option.some.injEq, Value.slice.injEq, Addr.mk.injEq] at h2; obtain ⟨⟨rfl, rfl, -⟩, -, rfl⟩ := h2; simp only; rw [he, Nat.zero_add]
structure InoAt (w : World) (bi K : Nat) (x : PIn) (ea : Option Addr) (ec : Nat) : Prop where
 iB : BlockLt bi w
 y0 : w.cell? ⟨bi, K * 4, none⟩ = some (.int .i64 x.num)
 y1 : w.cell? ⟨bi, K * 4 + 1, none⟩ = some (.bool x.dir)
 y2 : w.cell? ⟨bi, K * 4 + 2, none⟩ = some (.slice ea x.ents.length ec)
 y3 : w.cell? ⟨bi, K * 4 + 3, none⟩ = some (.string x.data)
 row : RowAt w 2 (.slice ea x.ents.length ec) (x.ents.map PEnt.cells)
 ent : ∀ ww l, Below w.heap.size w ww → Calls Tryz.prog 171 #[.slice ea x.ents.length ec, .string l] ww fun e w' => e = .returned (.tuple #[.int .i64 (bsE x.ents l), .bool (hitE x.ents l)]) ∧ Below ww.heap.size ww w'
 ful : ∀ ww l but, Below w.heap.size w ww → Calls Tryz.prog 173 #[.pointer (some ⟨bi, K * 4, none⟩), .string l, .string but] ww fun e w' => e = .returned (.bool (fullM x.ents l but)) ∧ Below ww.heap.size ww w'
theorem Opened.ino {B : Nat} {w : World} {d b bi gm capi capm : Nat} {ov nv : Value} {S : PSt} {c : PCall} {r : PRes} (o : Opened B w d b bi gm capi capm ov nv S c r) (hs : Small S) {K : Nat} {x : PIn} (hx : S.ins[K]? = some x) : ∃ ea ec, InoAt w bi K x ea ec := by
 obtain ⟨ai, capi', he, hat⟩ := o.st.read.ins_at2
 simp only [Value.slice.injEq] at he
 obtain ⟨rfl, -, rfl⟩ := he
 obtain ⟨bi', off', ev, he, iG, hone, hrow, hcl⟩ := hat K x hx
 simp only [Option.some.injEq, Addr.mk.injEq] at he
 obtain ⟨rfl, rfl, -⟩ := he
 obtain ⟨i1, y0, y1, y2, y3⟩ := hcl w (Below.refl _ _)
 rw [Nat.zero_add] at y0 y1 y2 y3
 have hrow' := hrow
 obtain ⟨ea, ec, rfl, _⟩ := hrow'
 have hl := hs.ents x (mG hx)
 rw [lM] at y2 hrow
 exact ⟨ea, ec, i1, y0, y1, y2, y3, hrow, fun ww l hww => entry114 x.ents _ l ww (hrow.below hww (Nat.le_refl _)) (by omega), fun ww l but hww => full116 bi (K * 4) x.ents _ l but ww ⟨by have := i1.lt; have := hww.size; omega⟩ ((hww.cell (p := ⟨bi, K * 4 + 2, none⟩) i1.lt).trans y2) (hrow.below hww (Nat.le_refl _)) (by omega)⟩
end Go.Proofs.YtmkapobnfigedaaGreatDoor
