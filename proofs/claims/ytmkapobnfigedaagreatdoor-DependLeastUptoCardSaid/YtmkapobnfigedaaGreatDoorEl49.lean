/- depend.row: the keys of calls that are done one by one. Conditions: none. depend.Closed. Conditions: none. depend.Closure. Conditions: none. depend.Keys, SameBools. Conditions: none. The order of keys by insertion. Conditions: none. Keys, closures by evaluation; what awake wants. Conditions: none. awake of the laws of chapter 15. Conditions: none. -/
import Derived.Test.YtmkapobnfigedaaGreatDoorEl48
import Derived.Test.YtmkapobnfigedaaGreatDoorEl47
import Derived.Test.YtmkapobnfigedaaGreatDoorEl31
set_option linter.unusedVariables false
set_option linter.unusedSimpArgs false
namespace Go.Proofs.YtmkapobnfigedaaGreatDoor
open Go.RowKit
def rowM : PSt → List PCall → List (List PKey)
 | _, [] => []
 | S, c :: r => keysM S c :: rowM (doX S c).1 r
def stM : PSt → List PCall → PSt
 | S, [] => S
 | S, c :: r => stM (doX S c).1 r
theorem rowM_len : ∀ (cs : List PCall) (S : PSt), (rowM S cs).length = cs.length
 | [], _ => rfl
 | c :: r, S => by unfold rowM; rw [List.length_cons, rowM_len r, List.length_cons]
theorem stM_wf : ∀ (cs : List PCall) (S : PSt), S.wf → (stM S cs).wf
 | [], _, h => h
 | c :: r, S, h => stM_wf r _ (doX_wf h)
theorem stM_snoc : ∀ (cs : List PCall) (S : PSt) (c : PCall), stM S (cs ++ [c]) = (doX (stM S cs) c).1
 | [], _, _ => rfl
 | d :: r, S, c => stM_snoc r _ c
theorem rowM_snoc : ∀ (cs : List PCall) (S : PSt) (c : PCall), rowM S (cs ++ [c]) = rowM S cs ++ [keysM (stM S cs) c]
 | [], _, _ => rfl
 | d :: r, S, c => by
   show keysM S d :: rowM _ (r ++ [c]) = _
   rw [rowM_snoc r]
   rfl
def StHere (w wr : World) (iv ov mv : Value) (S : PSt) : Prop := (StRead w iv ov mv S ∧ Below w.heap.size w wr) ∨ StOwn w.heap.size wr iv ov mv S
theorem StHere.read {w wr : World} {iv ov mv : Value} {S : PSt} (h : StHere w wr iv ov mv S) : StRead wr iv ov mv S := by
 rcases h with ⟨h, hb⟩ | h
 · exact h.below hb (Nat.le_refl _)
 · exact h.read
theorem StHere.keep {w wr w' : World} {iv ov mv : Value} {S : PSt} {X : Nat → Prop} (h : StHere w wr iv ov mv S) (hk : Keep X wr w') (hw : w.heap.size ≤ wr.heap.size) (h1 : ∀ g, X g → w.heap.size ≤ g) (hX : ∀ g, X g → ∃ c t, Blk wr g c t ∧ t ≠ 95 ∧ t ≠ 3 ∧ t ≠ 68 ∧ t ≠ 97) : StHere w w' iv ov mv S := by
 rcases h with ⟨h, hb⟩ | h
 · exact .inl ⟨h, hb.trans (hk.below hw (fun i hi hg => by have := h1 i hg; omega))⟩
 · exact .inr (StOwn.keep h hk hX)
structure KRows (B : Nat) (w : World) (vo : Value) (kss : List (List PKey)) (kvs : List Value) : Prop where
 out : OwnP B w 29 1 vo (kvs.map fun kv => [kv])
 len : kvs.length = kss.length
 keys : ∀ (i : Nat) (kv : Value) (ks : List PKey), kvs[i]? = some kv → kss[i]? = some ks → OwnP B w 61 2 kv (ks.map PKey.cells)
theorem KRows.keep {B : Nat} {w w' : World} {vo : Value} {kss : List (List PKey)} {kvs : List Value} {X : Nat → Prop} (h : KRows B w vo kss kvs) (hk : Keep X w w') (hX : ∀ g, X g → ∃ c t, Blk w g c t ∧ t ≠ 29 ∧ t ≠ 61) : KRows B w' vo kss kvs := by
 obtain ⟨h1, h2, h3⟩ := h
 refine ⟨OwnP.keep h1 hk (fun g hg hx => ?_), h2, fun i kv ks hi hj => OwnP.keep (h3 i kv ks hi hj) hk (fun g hg hx => ?_)⟩
 · obtain ⟨c, t, hb, n1, n2⟩ := hX g hx
   exact h1.ne_blk hb n1.symm hg rfl
 · obtain ⟨c, t, hb, n1, n2⟩ := hX g hx
   exact (h3 i kv ks hi hj).ne_blk hb n2.symm hg rfl
theorem OwnP.blk {B : Nat} {w : World} {e : TypeId} {k : Nat} {v : Value} {rows : List (List Value)} (h : OwnP B w e k v rows) {g : Nat} (hg : v.ownBlock = some g) : ∃ c, Blk w g c e := by
 rcases h with ⟨rfl, _⟩ | ⟨g', cap, cur, rfl, _, hb, _⟩
 · simp [Value.ownBlock] at hg
 · simp [Value.ownBlock] at hg
   subst hg
   exact ⟨_, hb⟩
theorem KRows.more {B : Nat} {w w1 w2 : World} {vo v' kv : Value} {kss : List (List PKey)} {kvs : List Value} {ks : List PKey} (h : KRows B w vo kss kvs) (hn : OwnP B w 61 2 kv (ks.map PKey.cells)) (hb : Below w.heap.size w w1) (hG : Grew B 29 1 w1 vo ((kvs ++ [kv]).map fun kv => [kv]) v' w2) : KRows B w2 v' (kss ++ [ks]) (kvs ++ [kv]) := by
 obtain ⟨g1, g2, -⟩ := hG
 obtain ⟨h1, h2, h3⟩ := h
 have key : ∀ (kv : Value) (ks : List PKey), OwnP B w 61 2 kv (ks.map PKey.cells) → OwnP B w2 61 2 kv (ks.map PKey.cells) := fun kv ks ho => by
  refine OwnP.keep (OwnP.keep ho (Keep.of_below hb (fun _ => False)) (fun _ _ h => h)) g2 (fun g hg hx => ?_)
  obtain ⟨c, hc⟩ := h1.blk hx
  exact ho.ne_blk hc (by decide) hg rfl
 refine ⟨g1, by rw [List.length_append, List.length_append, h2]; rfl, fun i kv' ks' hi hj => ?_⟩
 by_cases hl : i < kvs.length
 · rw [List.getElem?_append_left hl] at hi
   rw [List.getElem?_append_left (by omega)] at hj
   exact key kv' ks' (h3 i kv' ks' hi hj)
 · rw [List.getElem?_append_right (by omega)] at hi
   rw [List.getElem?_append_right (by omega)] at hj
   rcases hz : i - kvs.length with _ | z
   · rw [hz] at hi
     rw [← h2, hz] at hj
     cases hi
     cases hj
     exact key _ _ hn
   · rw [hz] at hi
     simp at hi
theorem info29 : (Tryz.prog.info? 29).map (fun i => (i.zero, i.size, i.bytes)) = some (some (.slice none 0 0), 1, 24) := by kernel_rfl
theorem app29 {w : World} {ops : Array Oper} {rest : List Oper} {o : Oper} {a : Act} {Q : Exit → Act → World → Prop} (hgd : o.guard = none) (s y : Operand)
 (hop : o.op = .call { callee := .builtin .append, args := #[s, y], argTypes := #[85, 85] }) (B : Nat) (v x kv : Value) (kvs : List Value) (hs : a.eval s = v) (hy : a.eval y = x) (ho : OwnP B w 29 1 v (kvs.map fun kv => [kv])) (hx : RowAt w 1 x [[kv]]) (h1 : kv.oneCell' = true) (hl : kvs.length ≤ 1000000000000) (hB : B ≤ w.heap.size)
 (h : ∀ v' w', Grew B 29 1 w v ((kvs ++ [kv]).map fun kv => [kv]) v' w' → wpList Tryz.prog ops Q rest (a.put o.dst v') w') :
 wpList Tryz.prog ops Q (o :: rest) a w := by
 obtain ⟨i, hi, hz, h2, h3⟩ := info_parts info29
 refine wpList_append_P w hgd s y 85 hop B 29 1 24 i _ Tryz.underlying85 hi hz h2 h3 rfl (by decide) v x (kvs.map fun kv => [kv]) [[kv]] hs hy (by
  intro cs hc
  obtain ⟨r, _, rfl⟩ := List.mem_map.1 hc
  rfl) (by
  intro cs hc
  simp only [List.mem_singleton] at hc
  subst hc
  rfl) (by
  intro cs hc u hu
  simp only [List.mem_singleton] at hc
  subst hc
  simp only [List.mem_singleton] at hu
  subst hu
  exact h1) ho hx ?_ ?_ hB ?_
 · rw [List.length_map, List.length_singleton]; unfold maxLen; omega
 · rw [List.length_map, List.length_singleton]; omega
 · intro v' w' hg
   exact h v' w' (by rw [List.map_append]; exact hg)
set_option maxRecDepth 100000 in
set_option maxHeartbeats 8000000 in
theorem row54 (iv ov mv : Value) (S : PSt) (cs : List PCall) (vc : Value) (w : World) (h : StRead w iv ov mv S) (hwf : S.wf) (hc : RowAt w 8 vc (cs.map PCall.cells)) (hcd : ∀ c ∈ cs, c.data.size ≤ 1000000000000000000) (hcl : cs.length ≤ 1000000000) :
 Calls Tryz.prog 54 #[.agg #[iv, ov, mv], vc] w fun e w' => Below w.heap.size w w' ∧ ∃ vo kvs, e = .returned vo ∧ KRows w.heap.size w' vo (rowM S cs) kvs := by
 have o1 := h.1.one
 have o2 := h.2.1.one
 have o3 : iv.oneCell' = true := by obtain ⟨_, _, _, h3, _⟩ := h; exact h3.one
 obtain ⟨ac, cc, rfl, hatc⟩ := hc.at_
 rw [List.length_map]
 have HS := Lib.hid (And.intro h hatc)
 clear h hatc hc
 go_enter Tryz.func54, Tryz.ntmps54
 go_upto_region 2 with fail
 refine abs_world (F := fun wA => Below w.heap.size w wA ∧ (∃ iv ov mv, Blk wA w.heap.size #[iv, ov, mv] 26 ∧ StHere w wA iv ov mv S) ∧ KRows w.heap.size wA (.slice none 0 0) [] []) ⟨bel w _, ⟨iv, ov, mv, Blk.new _ _ _, .inl ⟨HS.out.1, bel w _⟩⟩, ⟨.inl ⟨rfl, rfl⟩, rfl, fun i kv ks h => by simp at h⟩⟩ ?_
 intro wA HA0
 have HA := Lib.hid HA0
 clear HA0
 go_wp2_with fail
 go_loopw [5, 11] (fun vo vi wr => ∃ (q : Nat) (kvs : List Value) (vx : Value), vi = .int .i64 q ∧ vx = vo ∧ q ≤ cs.length ∧ Below w.heap.size w wr ∧ (∃ iv ov mv, Blk wr w.heap.size #[iv, ov, mv] 26 ∧ StHere w wr iv ov mv (stM S (cs.take q))) ∧ KRows w.heap.size wr vx (rowM S (cs.take q)) kvs) (fun _ vi _ => (cs.length - intOf vi).toNat)
 case atStart => exact ⟨0, [], _, rfl, rfl, by omega, HA.out.1, HA.out.2.1, HA.out.2.2⟩
 case round =>
  obtain ⟨q, kvs, vx, rfl, rfl, hq, hbr, ⟨iv2, ov2, mv2, hbk, hst⟩, hkr⟩ := hrel
  by_cases hlt : q < cs.length
  · obtain ⟨c, hc⟩ : ∃ c, cs[q]? = some c := ⟨_, List.getElem?_eq_getElem hlt⟩
    obtain ⟨bc, offc, rfl, iC0, iC, hcc⟩ := HS.out.2 wr hbr q c.cells (by rw [List.getElem?_map, hc]; rfl)
    have c0 := hcc 0 _ rfl
    have c1 := hcc 1 _ rfl
    have c2 := hcc 2 _ rfl
    have c3 := hcc 3 _ rfl
    have c4 := hcc 4 _ rfl
    have c5 := hcc 5 _ rfl
    have c6 := hcc 6 _ rfl
    have c7 := hcc 7 _ rfl
    rw [Nat.add_zero] at c0
    have hwfq := stM_wf (cs.take q) S hwf
    have hkeys := fun (ww : World) (hb : Below wr.heap.size wr ww) => keys40 iv2 ov2 mv2 (stM S (cs.take q)) c ww (hst.read.below hb (Nat.le_refl _)) hwfq (doX_wf hwfq) (hcd c (List.mem_of_getElem? hc))
    have htk : cs.take (q + 1) = cs.take q ++ [c] := by
     rw [List.take_succ_eq_append_getElem hlt]
     congr 2
     rw [List.getElem?_eq_getElem hlt] at hc
     exact Option.some.inj hc
    have hs2 : (doX (stM S (cs.take q)) c).1 = stM S (cs.take (q + 1)) := by rw [htk, stM_snoc]
    have hr2 : rowM S (cs.take (q + 1)) = rowM S (cs.take q) ++ [keysM (stM S (cs.take q)) c] := by rw [htk, rowM_snoc]
    rw [hs2] at hkeys
    have hq1 := hst.read.1.one
    have hq2 := hst.read.2.1.one
    have hq3 : iv2.oneCell' = true := by obtain ⟨_, _, _, h3, _⟩ := hst.read; exact h3.one
    have ib := hbk.lt
    have k0 : wr.cell? ⟨w.heap.size, 0, none⟩ = some iv2 := hbk.cell 0
    have k1 : wr.cell? ⟨w.heap.size, 1, none⟩ = some ov2 := hbk.cell 1
    have k2 : wr.cell? ⟨w.heap.size, 2, none⟩ = some mv2 := hbk.cell 2
    have hbx : ∀ w1, Below (wr.alloc (.cells #[.int .i64 c.kind, .int .i64 c.core, .int .i64 c.fd, .int .i64 c.off, .int .i64 c.num, .string c.path, .string c.path2, .string c.data] 28)).heap.size (wr.alloc (.cells #[.int .i64 c.kind, .int .i64 c.core, .int .i64 c.fd, .int .i64 c.off, .int .i64 c.num, .string c.path, .string c.path2, .string c.data] 28)) w1 → Blk w1 w.heap.size #[iv2, ov2, mv2] 26 := fun w1 hb => (hbk.alloc _).below hb (by have := ib.lt; simp; omega)
    have hwx : ∀ w1, Below (wr.alloc (.cells #[.int .i64 c.kind, .int .i64 c.core, .int .i64 c.fd, .int .i64 c.off, .int .i64 c.num, .string c.path, .string c.path2, .string c.data] 28)).heap.size (wr.alloc (.cells #[.int .i64 c.kind, .int .i64 c.core, .int .i64 c.fd, .int .i64 c.off, .int .i64 c.num, .string c.path, .string c.path2, .string c.data] 28)) w1 → Below wr.heap.size wr w1 := fun w1 hb => (bel wr _).trans (hb.mono (by simp))
    have hge : ∀ w1, Below (wr.alloc (.cells #[.int .i64 c.kind, .int .i64 c.core, .int .i64 c.fd, .int .i64 c.off, .int .i64 c.num, .string c.path, .string c.path2, .string c.data] 28)).heap.size (wr.alloc (.cells #[.int .i64 c.kind, .int .i64 c.core, .int .i64 c.fd, .int .i64 c.off, .int .i64 c.num, .string c.path, .string c.path2, .string c.data] 28)) w1 → w.heap.size ≤ (wr.alloc (.cells #[.int .i64 c.kind, .int .i64 c.core, .int .i64 c.fd, .int .i64 c.off, .int .i64 c.num, .string c.path, .string c.path2, .string c.data] 28)).heap.size := fun w1 _ => by have := ib.lt; simp; omega
    have HR := Lib.hid (And.intro hbr (And.intro hkr (And.intro hr2 hbk)))
    clear hbr hst hkr hr2 hs2 htk hcc hc hbk hwfq
    unfold PCall.val at hkeys
    go_upto_region 7 with (go_at_call 40; refine (hkeys _ (bel _ _)).mono ?_; rintro e w1 ⟨hb1, kv, iv3, ov3, mv3, rfl, hok, hso⟩; have hwr1 := hwx w1 hb1; have hby := hbx w1 hb1; have hgw := hge w1 hb1; have x0 : w1.cell? ⟨w.heap.size, 0, none⟩ = some iv2 := hby.cell 0; have x1 : w1.cell? ⟨w.heap.size, 1, none⟩ = some ov2 := hby.cell 1; have x2 : w1.cell? ⟨w.heap.size, 2, none⟩ = some mv2 := hby.cell 2; have fx0 := hby.frozen 0; have fx1 := hby.frozen 1; have fx2 := hby.frozen 2; have ix := hby.lt; obtain ⟨a11, a12, a13, a14, a15, a16, a17, a18, a19, rfl, rfl, rfl⟩ := hso.forms; clear hb1)
    have hokM := OwnP.mono hok hgw
    have hsoM := StOwn.mono hso hgw
    clear hok hso
    have hkp : ∀ (u0 u1 u2 : Value), Keep (fun g => g = w.heap.size) wr (((w1.setCell ⟨w.heap.size, 0, none⟩ u0).setCell ⟨w.heap.size, 1, none⟩ u1).setCell ⟨w.heap.size, 2, none⟩ u2) := fun u0 u1 u2 => (((Keep.of_below hwr1 (fun g => g = w.heap.size)).setCell (p := ⟨w.heap.size, 0, none⟩) (.inl rfl) _).setCell (p := ⟨w.heap.size, 1, none⟩) (.inl rfl) _).setCell (p := ⟨w.heap.size, 2, none⟩) (.inl rfl) _
    have hkq : ∀ (u0 u1 u2 : Value), Keep (fun g => g = w.heap.size) w1 (((w1.setCell ⟨w.heap.size, 0, none⟩ u0).setCell ⟨w.heap.size, 1, none⟩ u1).setCell ⟨w.heap.size, 2, none⟩ u2) := fun u0 u1 u2 => (((Keep.refl (fun g => g = w.heap.size) w1).setCell (p := ⟨w.heap.size, 0, none⟩) (.inl rfl) _).setCell (p := ⟨w.heap.size, 1, none⟩) (.inl rfl) _).setCell (p := ⟨w.heap.size, 2, none⟩) (.inl rfl) _
    refine abs_world (F := fun wB => Below w.heap.size w wB ∧ (∃ iv ov mv, Blk wB w.heap.size #[iv, ov, mv] 26 ∧ StHere w wB iv ov mv (stM S (cs.take (q + 1)))) ∧ KRows w.heap.size wB vx (rowM S (cs.take q)) kvs ∧ OwnP w.heap.size wB 61 2 kv ((keysM (stM S (cs.take q)) c).map PKey.cells)) ⟨?_, ?_, ?_, ?_⟩ ?_
    · exact HR.out.1.trans ((hkp _ _ _).below HR.out.1.size (fun i hi hg => by omega))
    · exact ⟨_, _, _, ((hby.set_ 0 _).set_ 1 _).set_ 2 _, .inr (StOwn.keep hsoM (hkq _ _ _) (fun g hg => by rw [hg]; exact ⟨_, 26, hby, by decide, by decide, by decide, by decide⟩))⟩
    · exact HR.out.2.1.keep (hkp _ _ _) (fun g hg => by rw [hg]; exact ⟨_, 26, HR.out.2.2.2, by decide, by decide⟩)
    · exact OwnP.keep hokM (hkq _ _ _) (fun g hg hx => by
       rw [hx] at hg
       exact hokM.ne_blk hby (by decide) hg rfl)
    clear hokM hsoM hkp hkq hby hwr1 x0 x1 x2 fx0 fx1 fx2 ix k0 k1 k2
    rintro wB ⟨hbB, hstB, hkB, hokB⟩
    have hBs := hbB.size
    obtain ⟨ak, nk, ck, rfl⟩ : ∃ a n c, kv = .slice a n c := by obtain ⟨a, c, h, -⟩ := hokB.row; exact ⟨a, _, c, h⟩
    have hkv1 := hokB.one
    have HB := Lib.hid (And.intro hbB (And.intro hstB (And.intro hkB hokB)))
    have hkl := HB.out.2.2.1.len
    rw [rowM_len, List.length_take] at hkl
    have C1 : OwnP w.heap.size (wB.alloc (.cells #[.slice ak nk ck] 29)) 29 1 vx (kvs.map fun kv => [kv]) := OwnP.keep HB.out.2.2.1.out (Keep.of_below (bel wB _) (fun _ => False)) (fun _ _ h => h)
    have C2 : RowAt (wB.alloc (.cells #[.slice ak nk ck] 29)) 1 (.slice (some ⟨wB.heap.size, 0, none⟩) 1 1) [[.slice ak nk ck]] := OwnP.row (B := 0) (e := 29) (.inr ⟨wB.heap.size, 1, #[.slice ak nk ck], rfl, Nat.zero_le _, Blk.new _ _ _, Nat.le_refl _, by decide, rfl, fun q' cs' hq' t u hu => by
     rcases q' with _ | q'
     · simp only [List.getElem?_cons_zero, Option.some.injEq] at hq'
       subst hq'
       rcases t with _ | t
       · exact hu
       · simp at hu
     · simp at hq'⟩)
    have C5 : w.heap.size ≤ (wB.alloc (.cells #[.slice ak nk ck] 29)).heap.size := by simp; omega
    have C4 : kvs.length ≤ 1000000000000 := by omega
    have CC := Lib.hid (And.intro C1 (And.intro C2 (And.intro C5 C4)))
    clear C1 C2 C5 C4 hbB hstB hkB hokB hkl
    go_wp2_with (at_builtin; refine app29 rfl _ _ rfl w.heap.size vx (.slice (some ⟨wB.heap.size, 0, none⟩) 1 1) (.slice ak nk ck) kvs rfl rfl CC.out.1 CC.out.2.1 hkv1 CC.out.2.2.2 CC.out.2.2.1 ?_)
    intro v' w2 hG
    rw [show (List.map (fun kv => [kv]) kvs ++ [[Value.slice ak nk ck]]) = (kvs ++ [Value.slice ak nk ck]).map (fun kv => [kv]) by rw [List.map_append]; rfl] at hG
    have hG2 := HB.out.2.2.1.more HB.out.2.2.2 (bel wB (wB.alloc (.cells #[.slice ak nk ck] 29))) hG
    rw [← HR.out.2.2.1] at hG2
    have hkG : Keep (fun g => vx.ownBlock = some g) wB w2 := (Keep.of_below (bel wB (wB.alloc (.cells #[.slice ak nk ck] 29))) _).trans hG.2.1 (fun i hi hg => hg)
    have hxb : ∀ g, vx.ownBlock = some g → w.heap.size ≤ g ∧ ∃ c, Blk wB g c 29 := fun g hg => ⟨HB.out.2.2.1.out.ge hg, HB.out.2.2.1.out.blk hg⟩
    have hbF : Below w.heap.size w w2 := HB.out.1.trans (hkG.below hBs (fun i hi hg => by have := (hxb i hg).1; omega))
    have hstF : ∃ iv ov mv, Blk w2 w.heap.size #[iv, ov, mv] 26 ∧ StHere w w2 iv ov mv (stM S (cs.take (q + 1))) := by
     obtain ⟨iv, ov, mv, h1, h2⟩ := HB.out.2.1
     exact ⟨iv, ov, mv, hkG.blk h1 (fun hg => by
      obtain ⟨_, c, hc⟩ := hxb _ hg
      exact hc.ne_ h1 (by decide) rfl), h2.keep hkG hBs (fun g hg => (hxb g hg).1) (fun g hg => by
      obtain ⟨_, c, hc⟩ := hxb g hg
      exact ⟨c, 29, hc, by decide, by decide, by decide, by decide⟩)⟩
    have HF := Lib.hid (And.intro hbF (And.intro hstF hG2))
    clear hG hG2 hkG hxb hbF hstF
    go_wp2_with fail
    go_roundw
    case rel => exact ⟨q + 1, _, v', by go_num, rfl, by omega, HF.out.1, HF.out.2.1, HF.out.2.2⟩
    case measure => simp [intOf]; omega
  · have e : cs.take q = cs := List.take_of_length_le (by omega)
    rw [e] at hkr
    have HK := Lib.hid (And.intro hbr hkr)
    clear hbr hst hbk hkr e
    go_wp2_with fail
    go_ret
    exact ⟨HK.out.1.trans ((bel wr _).mono HK.out.1.size), vx, kvs, rfl, HK.out.2.keep (Keep.of_below (bel wr _) (fun _ => False)) (fun _ h => h.elim)⟩
end Go.Proofs.YtmkapobnfigedaaGreatDoor
namespace Go.Proofs.YtmkapobnfigedaaGreatDoor
open Go.RowKit
theorem KRows.at_ {B : Nat} {w : World} {vo : Value} {kss : List (List PKey)} {kvs : List Value} (h : KRows B w vo kss kvs) : ∃ a cap, vo = .slice a kss.length cap ∧ ∀ wr, Below w.heap.size w wr → ∀ (q : Nat) (ks : List PKey), kss[q]? = some ks → ∃ b off kv, a = some ⟨b, off, none⟩ ∧ BlockLt b wr ∧ wr.cell? ⟨b, off + q, none⟩ = some kv ∧ RowAt wr 2 kv (ks.map PKey.cells) := by
 obtain ⟨h1, h2, h3⟩ := h
 obtain ⟨a, cap, rfl, hat⟩ := h1.row.at_
 rw [List.length_map, h2]
 refine ⟨a, cap, rfl, fun wr hb q ks hq => ?_⟩
 obtain ⟨hql, _⟩ := List.getElem?_eq_some_iff.1 hq
 obtain ⟨kv, hkv⟩ : ∃ kv, kvs[q]? = some kv := ⟨_, List.getElem?_eq_getElem (by omega)⟩
 obtain ⟨b, off, e, _, i2, hc⟩ := hat wr hb q [kv] (by rw [List.getElem?_map, hkv]; rfl)
 have := hc 0 _ rfl
 rw [Nat.mul_one, Nat.add_zero] at this
 exact ⟨b, off, kv, e, i2, this, (h3 q kv ks hkv hq).row.below hb (Nat.le_refl _)⟩
def touchT (kss : List (List PKey)) (e l : Nat) : Bool := match kss[e]?, kss[l]? with
 | some x, some y => touchM x y
 | _, _ => false
def closedM (S : PSt) (cs : List PCall) (inn : List Bool) : Bool := decide (inn.length = cs.length) && mayM S && closedE (touchT (rowM S cs)) inn
theorem range_all_drop (f : Nat → Bool) (n q : Nat) (h : q < n) : ((List.range n).drop q).all f = (f q && ((List.range n).drop (q + 1)).all f) := by
 rw [List.drop_eq_getElem_cons (by simpa using h), List.all_cons]
 simp
theorem range_all_end (f : Nat → Bool) (n q : Nat) (h : ¬ q < n) : ((List.range n).drop q).all f = true := by
 rw [List.drop_eq_nil_of_le (by simp; omega)]
 rfl
set_option maxRecDepth 100000 in
set_option maxHeartbeats 8000000 in
theorem closed26 (iv ov mv : Value) (S : PSt) (cs : List PCall) (inn : List Bool) (vc vi : Value) (w : World) (h : StRead w iv ov mv S) (hwf : S.wf) (hc : RowAt w 8 vc (cs.map PCall.cells)) (hcd : ∀ c ∈ cs, c.data.size ≤ 1000000000000000000) (hcl : cs.length ≤ 1000000000) (hi : RowAt w 1 vi (inn.map boolCells)) (hil : inn.length ≤ 1000000000) :
 Calls Tryz.prog 26 #[.agg #[iv, ov, mv], vc, vi] w fun e w' => e = .returned (.bool (closedM S cs inn)) ∧ Below w.heap.size w w' := by
 have hrow := fun (ww : World) (hb : Below w.heap.size w ww) => row54 iv ov mv S cs vc ww (h.below hb (Nat.le_refl _)) hwf (hc.below hb (Nat.le_refl _)) hcd hcl
 have hmay := fun (ww : World) (hb : Below w.heap.size w ww) => may37 iv ov mv S ww (h.below hb (Nat.le_refl _)) hwf
 have o1 := h.1.one
 have o2 := h.2.1.one
 have o3 : iv.oneCell' = true := by obtain ⟨_, _, _, h3, _⟩ := h; exact h3.one
 obtain ⟨ac, cc, rfl, -⟩ := hc
 obtain ⟨ai, ci, rfl, hati⟩ := hi.at_
 rw [List.length_map] at hrow ⊢
 rw [List.length_map]
 obtain ⟨R, hR⟩ : ∃ R, closedM S cs inn = R := ⟨_, rfl⟩
 rw [hR]
 have HR := Lib.hid hR
 have HI := Lib.hid hati
 unfold closedM at hR
 clear h hi hati
 by_cases hl : inn.length = cs.length
 · have hlb : ((inn.length : Int) != cs.length) = false := by simp; omega
   rw [decide_eq_true hl, Bool.true_and] at hR
   rcases hm : mayM S with _ | _
   · rw [hm, Bool.false_and] at hR
     subst hR
     rw [hm] at hmay
     clear hm hrow
     go_enter Tryz.func26, Tryz.ntmps26
     go_wp2_with (go_at_call 39; refine (hmay _ (bel _ _)).mono ?_; rintro e w' ⟨rfl, hb⟩; obtain ⟨p, rfl⟩ := hb.rest; clear hb)
     go_ret
     exact ⟨rfl, bel _ _⟩
   · rw [hm, Bool.true_and] at hR
     rw [hm] at hmay
     have HC := Lib.hid hR
     clear hm hR
     go_enter Tryz.func26, Tryz.ntmps26
     go_upto_region 4 with (first | (go_at_call 39; refine (hmay _ (bel _ _)).mono ?_; rintro e w' ⟨rfl, hb⟩; obtain ⟨p, rfl⟩ := hb.rest; clear hb) | (go_at_call 54; refine (hrow _ (bel _ _)).mono ?_; rintro e w3 ⟨hb3, vo, kvs, rfl, hk⟩; obtain ⟨ao, co, rfl, hato⟩ := hk.at_))
     have hrl := rowM_len cs S
     generalize rowM S cs = kss at *
     have hbw : Below w.heap.size w w3 := (bel w _).trans (hb3.mono (bel w _).size)
     have HO := Lib.hid hato
     have HW := Lib.hid hbw
     have hws := hbw.size
     have hkn : (kss.length : Int) = cs.length := by omega
     clear hato hk hb3 hrow hmay hcd hbw
     go_wp2_with fail
     go_loopw [25] (fun vi wr => ∃ q : Nat, vi = .int .i64 q ∧ q ≤ kss.length ∧ ((List.range inn.length).drop q).all (fun l => (List.range l).all fun e => !(inn.getD l false && !inn.getD e false && touchT kss e l)) = R ∧ Below w3.heap.size w3 wr) (fun vi _ => (kss.length - intOf vi).toNat)
     case atStart => exact ⟨0, rfl, by omega, by rw [← HC.out]; rfl, bel _ _⟩
     case round =>
      obtain ⟨q, rfl, hq, hre, hbr⟩ := hrel
      rename World => wo
      have iB : Bel w3 wo := ⟨hbr⟩
      by_cases hlt : q < kss.length
      · rw [range_all_drop _ _ _ (by omega)] at hre
        obtain ⟨y, hy⟩ : ∃ y, inn[q]? = some y := ⟨_, List.getElem?_eq_getElem (by omega)⟩
        obtain ⟨ky, hky⟩ : ∃ ky, kss[q]? = some ky := ⟨_, List.getElem?_eq_getElem (by omega)⟩
        have hyd : inn.getD q false = y := by rw [List.getD_eq_getElem?_getD, hy]; rfl
        rw [hyd] at hre
        have HRE := Lib.hid hre
        have HY := Lib.hid (And.intro hy hky)
        clear hre hy hky hyd
        go_wp2_with fail
        go_loopw [29] (fun vi w2 => ∃ k : Nat, vi = .int .i64 k ∧ k ≤ q ∧ ((List.range q).drop k).all (fun e => !(y && !inn.getD e false && touchT kss e q)) = (List.range q).all (fun e => !(y && !inn.getD e false && touchT kss e q)) ∧ Below wo.heap.size wo w2) (fun vi _ => (q - intOf vi).toNat)
        case atStart => exact ⟨0, rfl, by omega, rfl, bel _ _⟩
        case round =>
         obtain ⟨k, rfl, hk, hre2, hb2⟩ := hrel
         have hb3r : Below w3.heap.size w3 wr := hbr.trans (hb2.mono hbr.size)
         have iB2 : Bel w3 wr := ⟨hb3r⟩
         have iB3 : Bel wo wr := ⟨hb2⟩
         by_cases hlk : k < q
         · rw [range_all_drop _ _ _ hlk] at hre2
           obtain ⟨x, hx⟩ : ∃ x, inn[k]? = some x := ⟨_, List.getElem?_eq_getElem (by omega)⟩
           obtain ⟨kx, hkx⟩ : ∃ kx, kss[k]? = some kx := ⟨_, List.getElem?_eq_getElem (by omega)⟩
           have hxd : inn.getD k false = x := by rw [List.getD_eq_getElem?_getD, hx]; rfl
           rw [hxd] at hre2
           have hT : touchT kss k q = touchM kx ky := by unfold touchT; rw [hkx, HY.out.2]
           rw [hT] at hre2
           have hbwr : Below w.heap.size w wr := HW.out.trans (hb3r.mono hws)
           obtain ⟨bi, oi, rfl, iI0, iI, hci⟩ := HI.out wr hbwr q (boolCells y) (by rw [List.getElem?_map, HY.out.1]; rfl)
           have i0 := hci 0 _ rfl
           obtain ⟨bi2, oi2, he2, -, -, hci2⟩ := HI.out wr hbwr k (boolCells x) (by rw [List.getElem?_map, hx]; rfl)
           have j0 := hci2 0 _ rfl
           simp only [Option.some.injEq, Addr.mk.injEq, and_true] at he2
           obtain ⟨rfl, rfl⟩ := he2
           rw [Nat.mul_one, Nat.add_zero] at i0 j0
           obtain ⟨bo, oo, kvy, rfl, iO, oy, hry⟩ := HO.out wr hb3r q ky HY.out.2
           obtain ⟨bo2, oo2, kvx, heo, -, ox, hrx⟩ := HO.out wr hb3r k kx hkx
           simp only [Option.some.injEq, Addr.mk.injEq, and_true] at heo
           obtain ⟨rfl, rfl⟩ := heo
           have htch := fun (ww : World) (hb : Below wr.heap.size wr ww) => touch17 kx ky kvx kvy ww (hrx.below hb (Nat.le_refl _)) (hry.below hb (Nat.le_refl _))
           have g1 : (q : Int) < inn.length := by omega
           have g2 : (k : Int) < inn.length := by omega
           have g3 : (k : Int) < kss.length := by omega
           obtain ⟨ax, nx, cx, rfl⟩ : ∃ a n c, kvx = .slice a n c := by obtain ⟨a, c, h, -⟩ := hrx; exact ⟨a, _, c, h⟩
           obtain ⟨ay, ny, cy, rfl⟩ : ∃ a n c, kvy = .slice a n c := by obtain ⟨a, c, h, -⟩ := hry; exact ⟨a, _, c, h⟩
           generalize touchM kx ky = t at *
           have HRE2 := Lib.hid hre2
           clear hre2 hx hkx hxd hT hci hci2 hrx hry
           rcases y with _ | _
           · go_wp2_with fail
             refine wp_region_quiet_rest (by kernel_rfl) (by kernel_rfl) ?_
             repeat
              first
               | go_big_quiet_skip
               | (go_big_quiet_want; go_big_quiet_op; first | go_big_quiet_on | (apply Exists.intro; refine ⟨fun _ => ?_, ?_⟩; (focus (fail)); go_big_quiet_on))
             refine wpQuiet_nil ?_
             intro w1 hw1
             obtain ⟨p, hw1⟩ := hw1
             subst hw1
             go_wp2_with fail
             go_roundw
             case rel => exact ⟨k + 1, by go_num, by omega, by have := HRE2.out; simpa using this, bel _ _⟩
             case measure => simp [intOf]; omega
           rcases x with _ | _
           rotate_left
           · go_wp2_with fail
             refine wp_region_quiet_rest (by kernel_rfl) (by kernel_rfl) ?_
             repeat
              first
               | go_big_quiet_skip
               | (go_big_quiet_want; go_big_quiet_op; first | go_big_quiet_on | (apply Exists.intro; refine ⟨fun _ => ?_, ?_⟩; (focus (fail)); go_big_quiet_on))
             refine wpQuiet_nil ?_
             intro w1 hw1
             obtain ⟨p, hw1⟩ := hw1
             subst hw1
             go_wp2_with fail
             go_roundw
             case rel => exact ⟨k + 1, by go_num, by omega, by have := HRE2.out; simpa using this, bel _ _⟩
             case measure => simp [intOf]; omega
           rcases t with _ | _
           · go_wp2_with fail
             refine wp_region_quiet_rest (by kernel_rfl) (by kernel_rfl) ?_
             repeat
              first
               | go_big_quiet_skip
               | (go_big_quiet_want; go_big_quiet_op; first | go_big_quiet_on | (apply Exists.intro; refine ⟨fun _ => ?_, ?_⟩; (focus ((refine calls_in (htch _ (bel _ _)) (fun w' hb => ?_); first | exact hb.rest | exact rest1 hb | exact rest2 hb))); go_big_quiet_on))
             refine wpQuiet_nil ?_
             intro w1 hw1
             obtain ⟨p, hw1⟩ := hw1
             subst hw1
             go_wp2_with fail
             go_roundw
             case rel => exact ⟨k + 1, by go_num, by omega, by have := HRE2.out; simpa using this, bel _ _⟩
             case measure => simp [intOf]; omega
           · go_wp2_with fail
             refine wp_region_quiet_rest (by kernel_rfl) (by kernel_rfl) ?_
             repeat
              first
               | go_big_quiet_skip
               | (go_big_quiet_want; go_big_quiet_op; first | go_big_quiet_on | (apply Exists.intro; refine ⟨fun _ => ?_, ?_⟩; (focus ((refine calls_in (htch _ (bel _ _)) (fun w' hb => ?_); first | exact hb.rest | exact rest1 hb | exact rest2 hb))); go_big_quiet_on))
             refine wpQuiet_nil ?_
             intro w1 hw1
             obtain ⟨p, hw1⟩ := hw1
             subst hw1
             go_wp2_with fail
             go_ret
             exact ⟨ret_bool (by have h2 := HRE.out; rw [← HRE2.out] at h2; rw [← h2]; rfl), HW.out.trans ((bel w3 _).mono hws)⟩
         · rw [range_all_end _ _ _ hlk] at hre2
           have HRE2 := Lib.hid hre2
           clear hre2
           go_wp2_with fail
           go_roundw
           case rel => exact ⟨q + 1, by go_num, by omega, by have := HRE.out; rw [← HRE2.out] at this; simpa using this, iB2.below⟩
           case measure => simp [intOf]; omega
      · rw [range_all_end _ _ _ (by omega)] at hre
        have HRE := Lib.hid hre
        clear hre
        go_wp2_with fail
        go_ret
        exact ⟨ret_bool HRE.out, HW.out.trans ((bel w3 _).mono hws)⟩
 · have hlb : ((inn.length : Int) != cs.length) = true := by simp; omega
   rw [decide_eq_false hl, Bool.false_and, Bool.false_and] at hR
   subst hR
   clear hrow hmay
   go_enter Tryz.func26, Tryz.ntmps26
   go_wp2_with fail
   go_ret
   exact ⟨rfl, bel _ _⟩
end Go.Proofs.YtmkapobnfigedaaGreatDoor
namespace Go
theorem wpL_none {P : Program} {ops : Array Oper} {S : World → Prop} {E : List Nat} {lx : Bool} {Q : Act → World → Prop} {o : Oper} {a : Act} {w : World} {k : Nat} {l : List Oper} (hw : Region.wanted o (yielded ops a.tmps) = false)
 (h : wpL P ops S E lx Q (k + 1) l (a.put o.dst undef) w) : wpL P ops S E lx Q k (o :: l) a w := by
 simp only [wpL]
 rw [if_neg (by rintro ⟨_, h⟩; rw [hw] at h; cases h)]
 exact ⟨undef, .inr ⟨hw, rfl⟩, h⟩
end Go
namespace Go.Proofs.YtmkapobnfigedaaGreatDoor
open Go.RowKit
def boolRow (inn : List Bool) : Array Value := (inn.map Value.bool).toArray
theorem boolRow_get {inn : List Bool} {k : Nat} {x : Bool} (h : inn[k]? = some x) : (boolRow inn)[k]? = some (.bool x) := by
 unfold boolRow
 simp [h]
theorem boolRow_set (inn : List Bool) (k : Nat) (x : Bool) : (boolRow inn).setIfInBounds k (.bool x) = boolRow (inn.set k x) := by
 unfold boolRow
 simp [List.map_set]
theorem KRows.mono {B B' : Nat} {w : World} {vo : Value} {kss : List (List PKey)} {kvs : List Value} (h : KRows B w vo kss kvs) (hb : B' ≤ B) : KRows B' w vo kss kvs := ⟨OwnP.mono h.out hb, h.len, fun i kv ks h1 h2 => OwnP.mono (h.keys i kv ks h1 h2) hb⟩
def closureM (S : PSt) (cs : List PCall) (want : List Int) : List Bool := if mayM S = true then closeE (touchT (rowM S cs)) cs.length (markE cs.length want (List.replicate cs.length false)) else markE cs.length want (List.replicate cs.length false)
theorem closureM_len (S : PSt) (cs : List PCall) (want : List Int) : (closureM S cs want).length = cs.length := by
 unfold closureM
 split
 · rw [closeE_len, markE_len, List.length_replicate]
 · rw [markE_len, List.length_replicate]
theorem markE_drop (n : Nat) (l : List Int) (q : Nat) {k : Int} (h : l[q]? = some k) (inn : List Bool) : markE n (l.drop q) inn = markE n (l.drop (q + 1)) (if 0 ≤ k ∧ k < n then inn.set k.toNat true else inn) := by
 obtain ⟨hl, rfl⟩ := List.getElem?_eq_some_iff.1 h
 rw [List.drop_eq_getElem_cons hl]
 rfl
structure CW (w : World) (n : Nat) (vo : Value) (kss : List (List PKey)) (kvs : List Value) (inn : List Bool) (wr : World) : Prop where
 len : inn.length = n
 below : Below w.heap.size w wr
 blk : Blk wr (w.heap.size + 1) (boolRow inn) 4
 keys : KRows w.heap.size wr vo kss kvs
theorem CW.later {w : World} {n : Nat} {vo : Value} {kss : List (List PKey)} {kvs : List Value} {inn : List Bool} {wr w' : World} (h : CW w n vo kss kvs inn wr) (hb : Below wr.heap.size wr w') : CW w n vo kss kvs inn w' :=
 ⟨h.len, h.below.trans (hb.mono h.below.size), h.blk.below hb h.blk.lt.lt, h.keys.keep (Keep.of_below hb (fun _ => False)) (fun _ h => h.elim)⟩
theorem CW.store {w : World} {n : Nat} {vo : Value} {kss : List (List PKey)} {kvs : List Value} {inn : List Bool} {wr w' : World} (h : CW w n vo kss kvs inn wr) (hb : Below wr.heap.size wr w') {k m : Nat} (hk : k < m) (x : Bool) (hm : m ≤ n) : CW w n vo kss kvs (inn.set k x) (w'.setCell ⟨w.heap.size + 1, k, none⟩ (.bool x)) := by
 have h2 := h.later hb
 refine ⟨by rw [List.length_set]; exact h2.len, h2.below.setCell (p := ⟨w.heap.size + 1, k, none⟩) (by show w.heap.size ≤ w.heap.size + 1; omega) _, ?_, ?_⟩
 · have := h2.blk.set_ k (.bool x)
   rw [boolRow_set] at this
   exact this
 · exact h2.keys.keep (Keep.setCell (S := fun g => g = w.heap.size + 1) (p := ⟨w.heap.size + 1, k, none⟩) (Keep.refl _ w') (.inl rfl) _) (fun g hg => by rw [hg]; exact ⟨_, 4, h2.blk, by decide, by decide⟩)
set_option maxRecDepth 100000 in
set_option maxHeartbeats 16000000 in
theorem closure23 (iv ov mv : Value) (S : PSt) (cs : List PCall) (want : List Int) (vc vw : Value) (w : World) (h : StRead w iv ov mv S) (hwf : S.wf) (hc : RowAt w 8 vc (cs.map PCall.cells)) (hcd : ∀ c ∈ cs, c.data.size ≤ 1000000000000000000) (hcl : cs.length ≤ 2000000) (hw : RowAt w 1 vw (want.map intCells)) (hwl : want.length ≤ 1000000000) (hw64 : ∀ k ∈ want, I64 k) :
 Calls Tryz.prog 23 #[.agg #[iv, ov, mv], vc, vw] w fun e w' => Below w.heap.size w w' ∧ ∃ g, e = .returned (.slice (some ⟨g, 0, none⟩) cs.length cs.length) ∧ w.heap.size ≤ g ∧ Blk w' g (boolRow (closureM S cs want)) 4 := by
 have hrow := fun (ww : World) (hb : Below w.heap.size w ww) => row54 iv ov mv S cs vc ww (h.below hb (Nat.le_refl _)) hwf (hc.below hb (Nat.le_refl _)) hcd (by omega)
 have hmay := fun (ww : World) (hb : Below w.heap.size w ww) => may37 iv ov mv S ww (h.below hb (Nat.le_refl _)) hwf
 have o1 := h.1.one
 have o2 := h.2.1.one
 have o3 : iv.oneCell' = true := by obtain ⟨_, _, _, h3, _⟩ := h; exact h3.one
 obtain ⟨ac, cc, rfl, -⟩ := hc
 obtain ⟨aw, cw, rfl, hatw⟩ := hw.at_
 rw [List.length_map] at hrow ⊢
 rw [List.length_map]
 obtain ⟨R, hR⟩ : ∃ R, closureM S cs want = R := ⟨_, rfl⟩
 rw [hR]
 have HI := Lib.hid hatw
 unfold closureM at hR
 obtain ⟨j0, ji, jz0, jz1, jz2⟩ := info_parts info4
 have hmk2 : ∀ u : World, (Instr.makeSlice 39 (.int .i64 cs.length) (.int .i64 cs.length)).run Tryz.prog u = .ok (.slice (some ⟨u.heap.size, 0, none⟩) cs.length cs.length) (u.alloc (.cells (boolRow (List.replicate cs.length false)) 4)) := fun u => by
  have := run_makeSlice (P := Tryz.prog) u 39 4 j0 _ Tryz.underlying39 ji jz0 .i64 .i64 cs.length cs.length (by omega) (Int.le_refl _) (by rw [jz1]; omega) (by rw [jz2]; omega) (by omega)
  unfold boolRow
  rw [← made_map (fun x => Value.bool x)]
  simpa [jz1, Value.cells] using this
 have hI0l : (List.replicate cs.length false).length = cs.length := List.length_replicate
 generalize List.replicate cs.length false = I0 at *
 have HR := Lib.hid (And.intro hR hI0l)
 clear h hw hatw hR
 go_enter Tryz.func23, Tryz.ntmps23
 go_upto_region 2 with fail
 refine abs_world (F := fun wA => Below w.heap.size w wA ∧ Blk wA w.heap.size #[iv, ov, mv] 26 ∧ Blk wA (w.heap.size + 1) (boolRow I0) 4) ⟨bel w _, (Blk.new _ _ _).alloc _, Blk.new_i _ _ _ _⟩ ?_
 rintro wA ⟨hbA, hsA, hiA⟩
 have hmayA := fun (ww : World) (hb : Below wA.heap.size wA ww) => hmay ww (hbA.trans (hb.mono hbA.size))
 have HA := Lib.hid (And.intro hbA (And.intro hsA hiA))
 have iG := hiA.lt
 clear hbA hsA hiA
 go_wp2_with fail
 go_loopw [9, 18] (fun _ vi wr => ∃ (q : Nat) (inn : List Bool), vi = .int .i64 q ∧ q ≤ want.length ∧ inn.length = cs.length ∧ markE cs.length (want.drop q) inn = markE cs.length want I0 ∧ Below w.heap.size w wr ∧ Blk wr w.heap.size #[iv, ov, mv] 26 ∧ Blk wr (w.heap.size + 1) (boolRow inn) 4) (fun _ vi _ => (want.length - intOf vi).toNat)
 case atStart => exact ⟨0, I0, rfl, by omega, HR.out.2, by simp, HA.out.1, HA.out.2.1, HA.out.2.2⟩
 case round =>
  obtain ⟨q, inn, rfl, hq, hil, hre, hbr, hsr, hir⟩ := hrel
  have iGr := hir.lt
  by_cases hlt : q < want.length
  · obtain ⟨k, hk⟩ : ∃ k, want[q]? = some k := ⟨_, List.getElem?_eq_getElem hlt⟩
    obtain ⟨bw, ow, rfl, iW0, iW, hcw⟩ := HI.out wr hbr q (intCells k) (by rw [List.getElem?_map, hk]; rfl)
    have w0 := hcw 0 _ rfl
    rw [Nat.mul_one, Nat.add_zero] at w0
    rw [markE_drop _ _ _ hk] at hre
    have hk64 := hw64 k (List.mem_of_getElem? hk)
    have fz : ∀ i, wr.frozen? ⟨w.heap.size + 1, i, none⟩ = false := fun i => hir.frozen i
    by_cases hk0 : 0 ≤ k
    · by_cases hk1 : k < cs.length
      · rw [if_pos ⟨hk0, hk1⟩] at hre
        obtain ⟨m, rfl⟩ : ∃ m : Nat, k = m := ⟨k.toNat, by omega⟩
        rw [Int.toNat_natCast] at hre
        obtain ⟨u, hu⟩ : ∃ u, wr.cell? ⟨w.heap.size + 1, m, none⟩ = some u := ⟨_, by rw [hir.cell]; exact Array.getElem?_eq_getElem (by unfold boolRow; simp; omega)⟩
        have fm := fz m
        have hir2 : Blk (wr.setCell ⟨w.heap.size + 1, m, none⟩ (.bool true)) (w.heap.size + 1) (boolRow (inn.set m true)) 4 := by
         have := hir.set_ m (.bool true)
         rw [boolRow_set] at this
         exact this
        have hsr2 := hsr.far (a := ⟨w.heap.size + 1, m, none⟩) (by simp) (.bool true)
        have hbr2 := hbr.setCell (p := ⟨w.heap.size + 1, m, none⟩) (by show w.heap.size ≤ w.heap.size + 1; omega) (.bool true)
        have HF := Lib.hid (And.intro hre (And.intro hbr2 (And.intro hsr2 (And.intro hir2 hil))))
        clear hre hbr hsr hir hcw hk fz hir2 hsr2 hbr2 hil
        go_wp2_with fail
        go_roundw
        case rel => exact ⟨q + 1, _, by go_num, by omega, by rw [List.length_set]; exact HF.out.2.2.2.2, HF.out.1, HF.out.2.1, HF.out.2.2.1, HF.out.2.2.2.1⟩
        case measure => simp [intOf]; omega
      · rw [if_neg (by omega)] at hre
        have HF := Lib.hid (And.intro hre (And.intro hbr (And.intro hsr (And.intro hir hil))))
        clear hre hbr hsr hir hcw hk fz hil
        go_wp2_with fail
        go_roundw
        case rel => exact ⟨q + 1, _, by go_num, by omega, HF.out.2.2.2.2, HF.out.1, HF.out.2.1, HF.out.2.2.1, HF.out.2.2.2.1⟩
        case measure => simp [intOf]; omega
    · rw [if_neg (by omega)] at hre
      have HF := Lib.hid (And.intro hre (And.intro hbr (And.intro hsr (And.intro hir hil))))
      clear hre hbr hsr hir hcw hk fz hil
      go_wp2_with fail
      go_roundw
      case rel => exact ⟨q + 1, _, by go_num, by omega, HF.out.2.2.2.2, HF.out.1, HF.out.2.1, HF.out.2.2.1, HF.out.2.2.2.1⟩
      case measure => simp [intOf]; omega
  · have hM : inn = markE cs.length want I0 := by
     rw [List.drop_eq_nil_of_le (by omega)] at hre
     exact hre
    subst hM
    have s0 : wr.cell? ⟨w.heap.size, 0, none⟩ = some iv := hsr.cell 0
    have s1 : wr.cell? ⟨w.heap.size, 1, none⟩ = some ov := hsr.cell 1
    have s2 : wr.cell? ⟨w.heap.size, 2, none⟩ = some mv := hsr.cell 2
    have iSr := hsr.lt
    have hmayR := fun (ww : World) (hb : Below wr.heap.size wr ww) => hmay ww (hbr.trans (hb.mono hbr.size))
    have hrowR := fun (ww : World) (hb : Below wr.heap.size wr ww) => hrow ww (hbr.trans (hb.mono hbr.size))
    generalize markE cs.length want I0 = M0 at *
    have HB := Lib.hid (And.intro hbr (And.intro hir hil))
    clear hbr hir hil hre hsr hmayA hmay hrow
    rcases hm : mayM S with _ | _
    · have hRR : M0 = R := by
       have := HR.out.1
       rw [hm, if_neg (by decide)] at this
       exact this
      rw [hm] at hmayR
      clear hm hrowR
      go_wp2_with (go_at_call 39; refine (hmayR _ (bel _ _)).mono ?_; rintro e w' ⟨rfl, hb⟩; obtain ⟨p, rfl⟩ := hb.rest; clear hb)
      go_ret
      subst hRR
      exact ⟨HB.out.1.trans ((bel wr _).mono HB.out.1.size), _, rfl, by omega, HB.out.2.1.below (bel wr _) iGr.lt⟩
    · have hRR : closeE (touchT (rowM S cs)) cs.length M0 = R := by
       have := HR.out.1
       rw [hm, if_pos rfl] at this
       exact this
      rw [hm] at hmayR
      clear hm
      go_upto_region 11 with (first | (go_at_call 39; refine (hmayR _ (bel _ _)).mono ?_; rintro e w' ⟨rfl, hb⟩; obtain ⟨p, rfl⟩ := hb.rest; clear hb) | (go_at_call 54; refine (hrowR _ (bel _ _)).mono ?_; rintro e w3 ⟨hb3, vo, kvs, rfl, hkr⟩; obtain ⟨ao, co, rfl, hato⟩ := hkr.at_))
      have hrl := rowM_len cs S
      generalize rowM S cs = kss at *
      have hbr0 := HB.out.1
      have hb3w : Below wr.heap.size wr w3 := (bel wr _).trans (hb3.mono (bel wr _).size)
      have hbw : Below w.heap.size w w3 := HB.out.1.trans (hb3w.mono HB.out.1.size)
      have hi3 : Blk w3 (w.heap.size + 1) (boolRow M0) 4 := HB.out.2.1.below hb3w iGr.lt
      have HRR := Lib.hid hRR
      have ew0 : IntKind.i64.wrap ((kss.length : Int) - 1) = (kss.length : Int) - 1 := I64.wrap (by unfold I64; omega)
      have hkn : kss.length = cs.length := hrl
      have hCW : CW w cs.length (.slice ao kss.length co) kss kvs M0 w3 := ⟨HB.out.2.2, hbw, hi3, hkr.mono (by have := hbr0.size; simp; omega)⟩
      have iG3 := hi3.lt
      have HCW := Lib.hid hCW
      clear hato hkr hb3 hrowR hmayR hcd hbw hi3 hRR s0 s1 s2 iSr hCW hbr0
      go_wp2_with fail
      go_loopw [11] (fun vl wr => ∃ (l : Nat) (inn : List Bool), vl = .int .i64 ((l : Int) - 1) ∧ l ≤ cs.length ∧ closeE (touchT kss) l inn = R ∧ CW w cs.length (.slice ao kss.length co) kss kvs inn wr) (fun vl _ => (intOf vl + 1).toNat)
      case atStart => exact ⟨cs.length, M0, rfl, by omega, HRR.out, HCW.out⟩
      case round =>
       obtain ⟨l, inn, rfl, hl, hre, hcw⟩ := hrel
       rename World => wo
       rcases l with _ | m
       · have hRR2 : inn = R := hre
         subst hRR2
         have n0 : ¬ (0 : Int) ≤ ((0 : Nat) : Int) - 1 := by omega
         have HC := Lib.hid hcw
         clear hcw hre
         go_wp2_with fail
         go_ret
         exact ⟨HC.out.below.trans ((bel wo _).mono HC.out.below.size), _, rfl, by omega, HC.out.blk.below (bel wo _) HC.out.blk.lt.lt⟩
       · have hre1 : closeE (touchT kss) m (stepsE (touchT kss) m m 0 inn) = R := hre
         have e1 : ((m + 1 : Nat) : Int) - 1 = m := by omega
         rw [e1]
         have HRE0 := Lib.hid hre1
         have HC := Lib.hid hcw
         clear hcw hre hre1
         go_wp2_with fail
         go_loopw [49] (fun vk wr => ∃ (k : Nat) (inn' : List Bool), vk = .int .i64 k ∧ k ≤ m ∧ stepsE (touchT kss) m (m - k) k inn' = stepsE (touchT kss) m m 0 inn ∧ CW w cs.length (.slice ao kss.length co) kss kvs inn' wr) (fun vk _ => (m - intOf vk).toNat)
         case atStart => exact ⟨0, inn, rfl, by omega, rfl, HC.out.later (bel wo _)⟩
         case round =>
          obtain ⟨k, inn', rfl, hk, hst, hcw⟩ := hrel
          have HX := Lib.hid hcw
          have iG4 := hcw.blk.lt
          by_cases hkm : k < m
          · obtain ⟨x, hx⟩ : ∃ x, inn'[k]? = some x := ⟨_, List.getElem?_eq_getElem (by have := hcw.len; omega)⟩
            obtain ⟨y, hy⟩ : ∃ y, inn'[m]? = some y := ⟨_, List.getElem?_eq_getElem (by have := hcw.len; omega)⟩
            obtain ⟨kx, hkx⟩ : ∃ kx, kss[k]? = some kx := ⟨_, List.getElem?_eq_getElem (by omega)⟩
            obtain ⟨ky, hky⟩ : ∃ ky, kss[m]? = some ky := ⟨_, List.getElem?_eq_getElem (by omega)⟩
            have hT : touchT kss k m = touchM kx ky := by unfold touchT; rw [hkx, hky]
            rw [show m - k = (m - (k + 1)) + 1 by omega] at hst
            have hst2 : stepsE (touchT kss) m (m - (k + 1)) (k + 1) (inn'.set k (x || (y && touchM kx ky))) = stepsE (touchT kss) m m 0 inn := by
             rw [← hst]
             show _ = stepsE (touchT kss) m (m - (k + 1)) (k + 1) (stepE (touchT kss) m k inn')
             unfold stepE
             rw [hT, List.getD_eq_getElem?_getD, List.getD_eq_getElem?_getD, hx, hy]
             rfl
            have x0 : wr.cell? ⟨w.heap.size + 1, k, none⟩ = some (.bool x) := (hcw.blk.cell k).trans (boolRow_get hx)
            have y0 : wr.cell? ⟨w.heap.size + 1, m, none⟩ = some (.bool y) := (hcw.blk.cell m).trans (boolRow_get hy)
            have fk := hcw.blk.frozen k
            obtain ⟨ao', co', he, hato⟩ := hcw.keys.at_
            simp only [Value.slice.injEq] at he
            obtain ⟨rfl, -, rfl⟩ := he
            obtain ⟨bo, oo, kvy, rfl, iO, oy, hry⟩ := hato wr (Below.refl _ _) m ky hky
            obtain ⟨bo2, oo2, kvx, heo, -, ox, hrx⟩ := hato wr (Below.refl _ _) k kx hkx
            simp only [Option.some.injEq, Addr.mk.injEq, and_true] at heo
            obtain ⟨rfl, rfl⟩ := heo
            have htch := fun (ww : World) (hb : Below wr.heap.size wr ww) => touch17 kx ky kvx kvy ww (hrx.below hb (Nat.le_refl _)) (hry.below hb (Nat.le_refl _))
            have g1 : (k : Int) < cs.length := by omega
            have g2 : (m : Int) < cs.length := by omega
            have g3 : (k : Int) < kss.length := by omega
            have g4 : (m : Int) < kss.length := by omega
            obtain ⟨ax, nx, cx, rfl⟩ : ∃ a n c, kvx = .slice a n c := by obtain ⟨a, c, h, -⟩ := hrx; exact ⟨a, _, c, h⟩
            obtain ⟨ay, ny, cy, rfl⟩ : ∃ a n c, kvy = .slice a n c := by obtain ⟨a, c, h, -⟩ := hry; exact ⟨a, _, c, h⟩
            generalize touchM kx ky = t at *
            have HRE := Lib.hid hst2
            clear hst hst2 hcw hx hy hkx hky hT hato hrx hry
            rcases x with _ | _
            rotate_left
            · go_upto_region 17 with fail
              refine wp_region_eff [20, 24] true (fun w' => w'.cell? ⟨w.heap.size + 1, k, none⟩ = some (.bool true) ∧ w'.cell? ⟨w.heap.size + 1, m, none⟩ = some (.bool y) ∧ w'.cell? ⟨bo, oo + k, none⟩ = some (.slice ax nx cx) ∧ w'.cell? ⟨bo, oo + m, none⟩ = some (.slice ay ny cy)) (by kernel_rfl) (by kernel_rfl) ?_ ?_
              · (try dsimp only); (repeat' apply And.intro) <;> go_simp
              repeat
               first
                | (refine wpL_look rfl rfl ?_
                   apply Exists.intro
                   refine ⟨?_, ?_⟩
                   focus
                    rintro w' ⟨s0, s1, s2, s3⟩
                    go_simp
                    first | done | rfl
                   simp only [Act.put, List.setIfInBounds_toArray, List.set_cons_zero, List.set_cons_succ])
                | (refine wpL_none rfl ?_
                   simp only [Act.put, List.setIfInBounds_toArray, List.set_cons_zero, List.set_cons_succ])
              refine wpL_skip rfl rfl ?_
              apply Exists.intro
              apply And.intro
              focus
               go_simp
               first | done | rfl
              apply And.intro
              focus
               exact .inr ⟨rfl, rfl⟩
              refine wpL_end ?_
              simp only [Act.put]
              have HF := Lib.hid (HX.out.store (bel wr wr.drew) hkm true (by omega))
              change Exit.inBlock _ _ .normal _ (wr.drew.setCell ⟨w.heap.size + 1, k, none⟩ (.bool true))
              generalize wr.drew.setCell ⟨w.heap.size + 1, k, none⟩ (.bool true) = wF at HF ⊢
              go_wp2_with fail
              go_roundw
              case rel => exact ⟨k + 1, _, by go_num, by omega, by have := HRE.out; simpa using this, HF.out.later (bel wF _)⟩
              case measure => simp [intOf]; omega
            rcases y with _ | _
            · go_upto_region 17 with fail
              refine wp_region_eff [20, 24] true (fun w' => w'.cell? ⟨w.heap.size + 1, k, none⟩ = some (.bool false) ∧ w'.cell? ⟨w.heap.size + 1, m, none⟩ = some (.bool false) ∧ w'.cell? ⟨bo, oo + k, none⟩ = some (.slice ax nx cx) ∧ w'.cell? ⟨bo, oo + m, none⟩ = some (.slice ay ny cy)) (by kernel_rfl) (by kernel_rfl) ?_ ?_
              · (try dsimp only); (repeat' apply And.intro) <;> go_simp
              repeat
               first
                | (refine wpL_look rfl rfl ?_
                   apply Exists.intro
                   refine ⟨?_, ?_⟩
                   focus
                    rintro w' ⟨s0, s1, s2, s3⟩
                    go_simp
                    first | done | rfl
                   simp only [Act.put, List.setIfInBounds_toArray, List.set_cons_zero, List.set_cons_succ])
                | (refine wpL_none rfl ?_
                   simp only [Act.put, List.setIfInBounds_toArray, List.set_cons_zero, List.set_cons_succ])
              refine wpL_skip rfl rfl ?_
              apply Exists.intro
              apply And.intro
              focus
               go_simp
               first | done | rfl
              apply And.intro
              focus
               exact .inr ⟨rfl, rfl⟩
              refine wpL_end ?_
              simp only [Act.put]
              have HF := Lib.hid (HX.out.store (bel wr wr.drew) hkm false (by omega))
              change Exit.inBlock _ _ .normal _ (wr.drew.setCell ⟨w.heap.size + 1, k, none⟩ (.bool false))
              generalize wr.drew.setCell ⟨w.heap.size + 1, k, none⟩ (.bool false) = wF at HF ⊢
              go_wp2_with fail
              go_roundw
              case rel => exact ⟨k + 1, _, by go_num, by omega, by have := HRE.out; simpa using this, HF.out.later (bel wF _)⟩
              case measure => simp [intOf]; omega
            rcases t with _ | _
            · go_upto_region 17 with fail
              refine wp_region_eff [20, 24] true (fun w' => w'.cell? ⟨w.heap.size + 1, k, none⟩ = some (.bool false) ∧ w'.cell? ⟨w.heap.size + 1, m, none⟩ = some (.bool true) ∧ w'.cell? ⟨bo, oo + k, none⟩ = some (.slice ax nx cx) ∧ w'.cell? ⟨bo, oo + m, none⟩ = some (.slice ay ny cy)) (by kernel_rfl) (by kernel_rfl) ?_ ?_
              · (try dsimp only); (repeat' apply And.intro) <;> go_simp
              repeat
               first
                | (refine wpL_look rfl rfl ?_
                   apply Exists.intro
                   refine ⟨?_, ?_⟩
                   focus
                    rintro w' ⟨s0, s1, s2, s3⟩
                    go_simp
                    first | done | rfl
                   simp only [Act.put, List.setIfInBounds_toArray, List.set_cons_zero, List.set_cons_succ])
                | (refine wpL_none rfl ?_
                   simp only [Act.put, List.setIfInBounds_toArray, List.set_cons_zero, List.set_cons_succ])
              refine wpL_act rfl rfl ?_
              refine eff_call 17 #[.slice ax nx cx, .slice ay ny cy] ?_ ((htch wr.drew (bel wr _)).mono ?_)
              · go_simp
                first | done | rfl
              rintro e w4 ⟨rfl, hb4⟩
              obtain ⟨p4, rfl⟩ := hb4.rest
              refine ⟨_, rfl, .inl ?_, ?_⟩
              · (try dsimp only); (repeat' apply And.intro) <;> go_simp
              simp only [Act.put, List.setIfInBounds_toArray, List.set_cons_zero, List.set_cons_succ]
              repeat
               first
                | (refine wpL_look rfl rfl ?_
                   apply Exists.intro
                   refine ⟨?_, ?_⟩
                   focus
                    rintro w' ⟨s0, s1, s2, s3⟩
                    go_simp
                    first | done | rfl
                   simp only [Act.put, List.setIfInBounds_toArray, List.set_cons_zero, List.set_cons_succ])
                | (refine wpL_none rfl ?_
                   simp only [Act.put, List.setIfInBounds_toArray, List.set_cons_zero, List.set_cons_succ])
              refine wpL_skip rfl rfl ?_
              apply Exists.intro
              apply And.intro
              focus
               go_simp
               first | done | rfl
              apply And.intro
              focus
               exact .inr ⟨rfl, rfl⟩
              refine wpL_end ?_
              simp only [Act.put]
              have HF := Lib.hid ((HX.out.store (Below.refl _ _) hkm false (by omega)).later (bel (wr.setCell ⟨w.heap.size + 1, k, none⟩ (.bool false)) ((wr.setCell ⟨w.heap.size + 1, k, none⟩ (.bool false)).drew.junk p4)))
              change Exit.inBlock _ _ .normal _ ((wr.setCell ⟨w.heap.size + 1, k, none⟩ (.bool false)).drew.junk p4)
              generalize (wr.setCell ⟨w.heap.size + 1, k, none⟩ (.bool false)).drew.junk p4 = wF at HF ⊢
              go_wp2_with fail
              go_roundw
              case rel => exact ⟨k + 1, _, by go_num, by omega, by have := HRE.out; simpa using this, HF.out.later (bel wF _)⟩
              case measure => simp [intOf]; omega
            · go_upto_region 17 with fail
              refine wp_region_eff [20, 24] true (fun w' => w'.cell? ⟨w.heap.size + 1, k, none⟩ = some (.bool false) ∧ w'.cell? ⟨w.heap.size + 1, m, none⟩ = some (.bool true) ∧ w'.cell? ⟨bo, oo + k, none⟩ = some (.slice ax nx cx) ∧ w'.cell? ⟨bo, oo + m, none⟩ = some (.slice ay ny cy)) (by kernel_rfl) (by kernel_rfl) ?_ ?_
              · (try dsimp only); (repeat' apply And.intro) <;> go_simp
              repeat
               first
                | (refine wpL_look rfl rfl ?_
                   apply Exists.intro
                   refine ⟨?_, ?_⟩
                   focus
                    rintro w' ⟨s0, s1, s2, s3⟩
                    go_simp
                    first | done | rfl
                   simp only [Act.put, List.setIfInBounds_toArray, List.set_cons_zero, List.set_cons_succ])
                | (refine wpL_none rfl ?_
                   simp only [Act.put, List.setIfInBounds_toArray, List.set_cons_zero, List.set_cons_succ])
              refine wpL_act rfl rfl ?_
              refine eff_call 17 #[.slice ax nx cx, .slice ay ny cy] ?_ ((htch wr.drew (bel wr _)).mono ?_)
              · go_simp
                first | done | rfl
              rintro e w4 ⟨rfl, hb4⟩
              obtain ⟨p4, rfl⟩ := hb4.rest
              refine ⟨_, rfl, .inl ?_, ?_⟩
              · (try dsimp only); (repeat' apply And.intro) <;> go_simp
              simp only [Act.put, List.setIfInBounds_toArray, List.set_cons_zero, List.set_cons_succ]
              repeat
               first
                | (refine wpL_look rfl rfl ?_
                   apply Exists.intro
                   refine ⟨?_, ?_⟩
                   focus
                    rintro w' ⟨s0, s1, s2, s3⟩
                    go_simp
                    first | done | rfl
                   simp only [Act.put, List.setIfInBounds_toArray, List.set_cons_zero, List.set_cons_succ])
                | (refine wpL_none rfl ?_
                   simp only [Act.put, List.setIfInBounds_toArray, List.set_cons_zero, List.set_cons_succ])
              refine wpL_skip rfl rfl ?_
              apply Exists.intro
              apply And.intro
              focus
               go_simp
               first | done | rfl
              apply And.intro
              focus
               exact .inr ⟨rfl, rfl⟩
              refine wpL_end ?_
              simp only [Act.put]
              have HF := Lib.hid ((HX.out.store (Below.refl _ _) hkm true (by omega)).later (bel (wr.setCell ⟨w.heap.size + 1, k, none⟩ (.bool true)) ((wr.setCell ⟨w.heap.size + 1, k, none⟩ (.bool true)).drew.junk p4)))
              change Exit.inBlock _ _ .normal _ ((wr.setCell ⟨w.heap.size + 1, k, none⟩ (.bool true)).drew.junk p4)
              generalize (wr.setCell ⟨w.heap.size + 1, k, none⟩ (.bool true)).drew.junk p4 = wF at HF ⊢
              go_wp2_with fail
              go_roundw
              case rel => exact ⟨k + 1, _, by go_num, by omega, by have := HRE.out; simpa using this, HF.out.later (bel wF _)⟩
              case measure => simp [intOf]; omega
          · have hkm2 : k = m := by omega
            subst hkm2
            have hst2 : inn' = stepsE (touchT kss) k k 0 inn := by
             rw [Nat.sub_self] at hst
             exact hst
            have HS := Lib.hid hst2
            have ew1 : IntKind.i64.wrap ((k : Int) - 1) = (k : Int) - 1 := I64.wrap (by unfold I64; omega)
            clear hst hst2 hcw
            go_wp2_with fail
            go_roundw
            case rel => exact ⟨k, inn', rfl, by omega, by rw [HS.out]; exact HRE0.out, HX.out.later (bel wr _)⟩
            case measure => first | (simp [intOf]; done) | (simp [intOf]; omega)
end Go.Proofs.YtmkapobnfigedaaGreatDoor
namespace Go.Proofs.YtmkapobnfigedaaGreatDoor
open Go.RowKit
def keysF (S : PSt) (c : PCall) : List PKey := if mayM S = true then keysM S c else []
set_option maxRecDepth 100000 in
set_option maxHeartbeats 4000000 in
theorem keys12 (iv ov mv : Value) (S : PSt) (c : PCall) (w : World) (h : StRead w iv ov mv S) (hwf : S.wf) (hcd : c.data.size ≤ 1000000000000000000) :
 Calls Tryz.prog 12 #[.agg #[iv, ov, mv], c.val] w fun e w' => Below w.heap.size w w' ∧ ∃ kv, e = .returned kv ∧ OwnP w.heap.size w' 61 2 kv ((keysF S c).map PKey.cells) := by
 have hmay := fun (ww : World) (hb : Below w.heap.size w ww) => may37 iv ov mv S ww (h.below hb (Nat.le_refl _)) hwf
 have hkeys := fun (ww : World) (hb : Below w.heap.size w ww) => keys40 iv ov mv S c ww (h.below hb (Nat.le_refl _)) hwf (doX_wf hwf) hcd
 have o1 := h.1.one
 have o2 := h.2.1.one
 have o3 : iv.oneCell' = true := by obtain ⟨_, _, _, h3, _⟩ := h; exact h3.one
 obtain ⟨R, hR⟩ : ∃ R, keysF S c = R := ⟨_, rfl⟩
 rw [hR]
 unfold keysF at hR
 clear h
 unfold PCall.val at hkeys ⊢
 rcases hm : mayM S with _ | _
 · rw [hm, if_neg (by decide)] at hR
   subst hR
   rw [hm] at hmay
   clear hm hkeys
   go_enter Tryz.func12, Tryz.ntmps12
   go_wp2_with (go_at_call 39; refine (hmay _ (bel _ _)).mono ?_; rintro e w' ⟨rfl, hb⟩; obtain ⟨p, rfl⟩ := hb.rest; clear hb)
   go_ret
   exact ⟨bel _ _, _, rfl, .inl ⟨rfl, rfl⟩⟩
 · rw [hm, if_pos rfl] at hR
   rw [hm] at hmay
   rw [hR] at hkeys
   clear hm hR
   go_enter Tryz.func12, Tryz.ntmps12
   go_wp2_with (first | (go_at_call 39; refine (hmay _ (bel _ _)).mono ?_; rintro e w' ⟨rfl, hb⟩; obtain ⟨p, rfl⟩ := hb.rest; clear hb) | (go_at_call 40; refine (hkeys _ (bel _ _)).mono ?_; rintro e w3 ⟨hb3, kv, iv3, ov3, mv3, rfl, hk, hs⟩; have hkr := hk.one; obtain ⟨a11, a12, a13, a14, a15, a16, a17, a18, a19, rfl, rfl, rfl⟩ := hs.forms))
   go_ret
   exact ⟨(bel w _).trans ((hb3.mono (bel w _).size).trans ((bel w3 _).mono (Nat.le_trans (bel w _).size hb3.size))), kv, rfl, OwnP.mono (OwnP.keep hk (Keep.of_below (bel w3 _) (fun _ => False)) (fun _ _ h => h)) (bel w _).size⟩
theorem same_drop (us bs : List Bool) (q : Nat) {x y : Bool} (hx : us[q]? = some x) (hy : bs[q]? = some y) : (us.drop q == bs.drop q) = ((x == y) && (us.drop (q + 1) == bs.drop (q + 1))) := by
 obtain ⟨h1, rfl⟩ := List.getElem?_eq_some_iff.1 hx
 obtain ⟨h2, rfl⟩ := List.getElem?_eq_some_iff.1 hy
 rw [List.drop_eq_getElem_cons h1, List.drop_eq_getElem_cons h2]
 rfl
set_option maxRecDepth 100000 in
set_option maxHeartbeats 4000000 in
theorem sameBools25 (us bs : List Bool) (va vb : Value) (w : World) (ha : RowAt w 1 va (us.map boolCells)) (hb : RowAt w 1 vb (bs.map boolCells)) :
 Calls Tryz.prog 25 #[va, vb] w fun e w' => e = .returned (.bool (us == bs)) ∧ Below w.heap.size w w' := by
 have hal : us.length ≤ 9223372036854775807 := by obtain ⟨_, _, _, h, _⟩ := ha; rw [List.length_map] at h; exact h
 obtain ⟨aa, ca, rfl, hata⟩ := ha.at_
 obtain ⟨ab, cb, rfl, hatb⟩ := hb.at_
 rw [List.length_map, List.length_map]
 have HA := Lib.hid (And.intro hata hatb)
 clear hata hatb ha hb
 obtain ⟨R, hR⟩ : ∃ R, (us == bs) = R := ⟨_, rfl⟩
 rw [hR]
 by_cases hl : us.length = bs.length
 · have hlb : ((us.length : Int) != bs.length) = false := by simp; omega
   have HR := Lib.hid hR
   clear hR
   go_enter Tryz.func25, Tryz.ntmps25
   go_wp2_with fail
   go_loopw [5] (fun vi wr => ∃ q : Nat, vi = .int .i64 q ∧ q ≤ us.length ∧ (us.drop q == bs.drop q) = R ∧ Below w.heap.size w wr) (fun vi _ => (us.length - intOf vi).toNat)
   case atStart => exact ⟨0, rfl, by omega, by simpa using HR.out, bel _ _⟩
   case round =>
    obtain ⟨q, rfl, hq, hre, hbr⟩ := hrel
    have iB : Bel w wr := ⟨hbr⟩
    by_cases hlt : q < us.length
    · obtain ⟨x, hx⟩ : ∃ x, us[q]? = some x := ⟨_, List.getElem?_eq_getElem hlt⟩
      obtain ⟨y, hy⟩ : ∃ y, bs[q]? = some y := ⟨_, List.getElem?_eq_getElem (by omega)⟩
      obtain ⟨be, offe, rfl, iE0, iE, hce⟩ := HA.out.1 wr hbr q (boolCells x) (by rw [List.getElem?_map, hx]; rfl)
      have e0 := hce 0 _ rfl
      obtain ⟨bf, offf, rfl, iF0, iF, hcf⟩ := HA.out.2 wr hbr q (boolCells y) (by rw [List.getElem?_map, hy]; rfl)
      have f0 := hcf 0 _ rfl
      rw [Nat.mul_one, Nat.add_zero] at e0 f0
      rw [same_drop us bs q hx hy] at hre
      have g1 : (q : Int) < us.length := by omega
      have g2 : (q : Int) < bs.length := by omega
      have HE := Lib.hid hre
      clear hre hce hcf hx hy
      rcases x with _ | _ <;> rcases y with _ | _
      · go_wp2_with fail
        refine wp_region_quiet_rest (by kernel_rfl) (by kernel_rfl) ?_
        repeat
         first
          | go_big_quiet_skip
          | (go_big_quiet_want; go_big_quiet_op; first | go_big_quiet_on | (apply Exists.intro; refine ⟨fun _ => ?_, ?_⟩; (focus (fail)); go_big_quiet_on))
        refine wpQuiet_nil ?_
        intro w1 hw1
        obtain ⟨p, hw1⟩ := hw1
        subst hw1
        go_wp2_with fail
        go_roundw
        case rel => exact ⟨q + 1, by go_num, by omega, by have := HE.out; simpa using this, bel _ _⟩
        case measure => simp [intOf]; omega
      · go_wp2_with fail
        refine wp_region_quiet_rest (by kernel_rfl) (by kernel_rfl) ?_
        repeat
         first
          | go_big_quiet_skip
          | (go_big_quiet_want; go_big_quiet_op; first | go_big_quiet_on | (apply Exists.intro; refine ⟨fun _ => ?_, ?_⟩; (focus (fail)); go_big_quiet_on))
        refine wpQuiet_nil ?_
        intro w1 hw1
        obtain ⟨p, hw1⟩ := hw1
        subst hw1
        go_wp2_with fail
        go_ret
        exact ⟨ret_bool (by rw [← HE.out]; rfl), bel _ _⟩
      · go_wp2_with fail
        refine wp_region_quiet_rest (by kernel_rfl) (by kernel_rfl) ?_
        repeat
         first
          | go_big_quiet_skip
          | (go_big_quiet_want; go_big_quiet_op; first | go_big_quiet_on | (apply Exists.intro; refine ⟨fun _ => ?_, ?_⟩; (focus (fail)); go_big_quiet_on))
        refine wpQuiet_nil ?_
        intro w1 hw1
        obtain ⟨p, hw1⟩ := hw1
        subst hw1
        go_wp2_with fail
        go_ret
        exact ⟨ret_bool (by rw [← HE.out]; rfl), bel _ _⟩
      · go_wp2_with fail
        refine wp_region_quiet_rest (by kernel_rfl) (by kernel_rfl) ?_
        repeat
         first
          | go_big_quiet_skip
          | (go_big_quiet_want; go_big_quiet_op; first | go_big_quiet_on | (apply Exists.intro; refine ⟨fun _ => ?_, ?_⟩; (focus (fail)); go_big_quiet_on))
        refine wpQuiet_nil ?_
        intro w1 hw1
        obtain ⟨p, hw1⟩ := hw1
        subst hw1
        go_wp2_with fail
        go_roundw
        case rel => exact ⟨q + 1, by go_num, by omega, by have := HE.out; simpa using this, bel _ _⟩
        case measure => simp [intOf]; omega
    · rw [List.drop_eq_nil_of_le (by omega), List.drop_eq_nil_of_le (by omega)] at hre
      have HE := Lib.hid hre
      clear hre
      go_wp2_with fail
      go_ret
      exact ⟨ret_bool (by rw [← HE.out]; rfl), bel _ _⟩
 · have hlb : ((us.length : Int) != bs.length) = true := by simp; omega
   have hRf : R = false := by
    rw [← hR, Bool.eq_false_iff]
    intro h
    rw [beq_iff_eq] at h
    exact hl (by rw [h])
   subst hRf
   clear hR
   go_enter Tryz.func25, Tryz.ntmps25
   go_wp2_with fail
   go_ret
   exact ⟨rfl, bel _ _⟩
end Go.Proofs.YtmkapobnfigedaaGreatDoor
namespace Go.Proofs.YtmkapobnfigedaaGreatDoor
open Go.RowKit
def insK (k : PKey) : List PKey → List PKey
 | [] => [k]
 | y :: r => if ltK y k = true then y :: insK k r else k :: y :: r
def isK (l : List PKey) : List PKey := l.foldr insK []
def leK (x y : PKey) : Bool := !ltK y x
theorem leK_total (x y : PKey) : (leK x y || leK y x) = true := by
 unfold leK
 rcases h1 : ltK y x with _ | _
 · simp
 · rcases h2 : ltK x y with _ | _
   · simp
   · have := ltK_trans h1 h2
     rw [ltK_irrefl] at this
     cases this
theorem leK_trans (x y z : PKey) (h1 : leK x y = true) (h2 : leK y z = true) : leK x z = true := by
 unfold leK at *
 simp only [Bool.not_eq_true'] at *
 rw [Bool.eq_false_iff]
 intro h
 rcases ltK_total y z with h3 | h3 | h3
 · rw [ltK_trans h3 h] at h1; cases h1
 · subst h3; rw [h] at h1; cases h1
 · rw [h3] at h2; cases h2
theorem leK_anti {x y : PKey} (h1 : leK x y = true) (h2 : leK y x = true) : x = y := by
 unfold leK at *
 simp only [Bool.not_eq_true'] at *
 rcases ltK_total x y with h3 | h3 | h3
 · rw [h3] at h2; cases h2
 · exact h3
 · rw [h3] at h1; cases h1
theorem insK_perm (k : PKey) : ∀ l, (insK k l).Perm (k :: l)
 | [] => List.Perm.refl _
 | y :: r => by
   unfold insK
   split
   · exact ((insK_perm k r).cons y).trans (List.Perm.swap k y r)
   · exact List.Perm.refl _
theorem insK_sorted (k : PKey) : ∀ l, l.Pairwise (fun x y => leK x y = true) → (insK k l).Pairwise (fun x y => leK x y = true)
 | [], _ => by simp [insK]
 | y :: r, h => by
   rw [List.pairwise_cons] at h
   unfold insK
   split
   · rename_i hy
     rw [List.pairwise_cons]
     refine ⟨fun z hz => ?_, insK_sorted k r h.2⟩
     rcases List.mem_cons.1 ((insK_perm k r).mem_iff.1 hz) with rfl | hz
     · unfold leK
       rcases h3 : ltK z y with _ | _
       · rfl
       · have := ltK_trans hy h3
         rw [ltK_irrefl] at this; cases this
     · exact h.1 z hz
   · rename_i hy
     have hky : leK k y = true := by unfold leK; simpa using hy
     rw [List.pairwise_cons]
     refine ⟨fun z hz => ?_, List.pairwise_cons.2 h⟩
     rcases List.mem_cons.1 hz with rfl | hz
     · exact hky
     · exact leK_trans _ _ _ hky (h.1 z hz)
theorem isK_perm : ∀ l, (isK l).Perm l
 | [] => List.Perm.refl _
 | k :: l => (insK_perm k (isK l)).trans ((isK_perm l).cons k)
theorem isK_sorted : ∀ l, (isK l).Pairwise (fun x y => leK x y = true)
 | [] => List.Pairwise.nil
 | k :: l => insK_sorted k _ (isK_sorted l)
theorem sorted_uniq : ∀ (a b : List PKey), a.Pairwise (fun x y => leK x y = true) → b.Pairwise (fun x y => leK x y = true) → a.Perm b → a = b
 | [], b, _, _, h => (List.Perm.nil_eq h)
 | x :: a, [], _, _, h => by simp at h
 | x :: a, y :: b, ha, hb, h => by
   rw [List.pairwise_cons] at ha hb
   have hxy : x = y := by
    have h1 : x ∈ y :: b := h.mem_iff.1 (by simp)
    have h2 : y ∈ x :: a := h.mem_iff.2 (by simp)
    rcases List.mem_cons.1 h1 with e | h1
    · exact e
    rcases List.mem_cons.1 h2 with e | h2
    · exact e.symm
    exact leK_anti (ha.1 y h2) (hb.1 x h1)
   subst hxy
   rw [sorted_uniq a b ha.2 hb.2 (List.Perm.cons_inv h)]
theorem sortK_is (l : List PKey) : sortK l = isK l := by
 refine sorted_uniq _ _ ?_ (isK_sorted l) ?_
 · unfold sortK
   exact List.pairwise_mergeSort (fun a b c h1 h2 => leK_trans a b c h1 h2) (fun a b => leK_total a b) l
 · unfold sortK
   exact (List.mergeSort_perm _ _).trans (isK_perm l).symm
end Go.Proofs.YtmkapobnfigedaaGreatDoor
namespace Go.Proofs.YtmkapobnfigedaaGreatDoor
open Go.RowKit
def pickV (code : Int) (o : Option (List PKey)) : List PKey := if code = 0 then (match o with | none => [] | some l => dedupK (isK l)) else []
theorem pickK_eq (code : Int) (o : Option (List PKey)) : pickK code o = pickV code o := by
 unfold pickV
 by_cases h : code = 0
 · rw [if_pos h]
   rcases o with _ | l
   · rw [pickK_none]
   · rw [pickK_some h, sortK_is]
 · rw [if_neg h, pickK_bad h]
def keysV (S : PSt) (c : PCall) : List PKey := pickV (doX S c).2.code (gatherK S (doX S c).1 c)
theorem keysM_eq (S : PSt) (c : PCall) : keysM S c = keysV S c := pickK_eq _ _
def rowV : PSt → List PCall → List (List PKey)
 | _, [] => []
 | S, c :: r => keysV S c :: rowV (doX S c).1 r
theorem rowM_eq : ∀ (cs : List PCall) (S : PSt), rowM S cs = rowV S cs
 | [], _ => rfl
 | c :: r, S => by
   unfold rowM rowV
   rw [keysM_eq, rowM_eq r]
def closureV (S : PSt) (cs : List PCall) (want : List Int) : List Bool := if mayM S = true then closeE (touchT (rowV S cs)) cs.length (markE cs.length want (List.replicate cs.length false)) else markE cs.length want (List.replicate cs.length false)
theorem closureM_eq (S : PSt) (cs : List PCall) (want : List Int) : closureM S cs want = closureV S cs want := by unfold closureM closureV; rw [rowM_eq]
def closedV (S : PSt) (cs : List PCall) (inn : List Bool) : Bool := decide (inn.length = cs.length) && mayM S && closedE (touchT (rowV S cs)) inn
theorem closedM_eq (S : PSt) (cs : List PCall) (inn : List Bool) : closedM S cs inn = closedV S cs inn := by unfold closedM closedV; rw [rowM_eq]
def cA : PCall := ⟨0, 0, 0, 0, 0, ⟨#[47, 97]⟩, ⟨#[]⟩, ⟨#[]⟩⟩
def cB : PCall := ⟨2, 1, 0, 0, 0, ⟨#[47, 97]⟩, ⟨#[]⟩, ⟨#[]⟩⟩
def ksA : List PKey := keysV (newSt 2) cA
theorem awk_may : mayM (newSt 2) = true := by kernel_rfl
theorem awk_len : ksA.length = 4 := by kernel_rfl
theorem awk_0 : ksA[0]? = some ⟨-1, ⟨#[]⟩⟩ := by kernel_rfl
theorem awk_3 : ksA[3]? = some ⟨2, ⟨#[]⟩⟩ := by kernel_rfl
theorem awk_t1 : touchM ksA ksA = true := by kernel_rfl
theorem awk_t2 : touchM ksA [⟨1, ⟨#[46]⟩⟩] = false := by kernel_rfl
theorem awk_cl : closureV (newSt 2) [cA, cB] [1] = [true, true] := by kernel_rfl
theorem awk_cd : closedV (newSt 2) [cA] [false] = true := by kernel_rfl
theorem awk_wf : (newSt 2).wf := by
 refine ⟨by decide, by decide, by decide, ?_, ?_, ?_⟩
 · intro x hx
   have : x = ⟨1, true, [], ⟨#[]⟩⟩ := by simpa [newSt] using hx
   subst this
   exact ⟨by unfold I64; decide, by simp, by simp⟩
 · intro d hd; simp [newSt] at hd
 · intro m hm
   have : m = 0 := by simpa [newSt] using hm
   subst this
   unfold I64; decide
end Go.Proofs.YtmkapobnfigedaaGreatDoor
namespace Go.Proofs.YtmkapobnfigedaaGreatDoor
open Go.RowKit
theorem row_blk {w : World} {b k n : Nat} {arr : Array Value} {t : TypeId} {rows : List (List Value)} (hb : Blk w b arr t) (hn : rows.length = n) (hm : n ≤ maxLen) (hr : RowsIn arr k rows) : RowAt w k (.slice (some ⟨b, 0, none⟩) n n) rows := by
 subst hn
 exact ⟨_, _, rfl, hm, fun _ => ⟨b, 0, rfl, hb.lt.lt, fun q cs hq t u hu => by rw [hb.cell, Nat.zero_add]; exact hr q cs hq t u hu⟩⟩
theorem rows1 {k : Nat} {r : List Value} (hk : r.length = k) : RowsIn r.toArray k [r] := by
 intro q cs hq t u hu
 rcases q with _ | q
 · cases hq
   rw [Nat.zero_mul, Nat.zero_add]
   simpa using hu
 · simp at hq
theorem rows2 {k : Nat} {r s : List Value} (hr : r.length = k) (hs : s.length = k) : RowsIn (r ++ s).toArray k [r, s] := by
 intro q cs hq t u hu
 rcases q with _ | _ | q
 · cases hq
   rw [Nat.zero_mul, Nat.zero_add]
   obtain ⟨h, _⟩ := List.getElem?_eq_some_iff.1 hu
   rw [List.getElem?_toArray, List.getElem?_append_left h]
   exact hu
 · cases hq
   rw [List.getElem?_toArray, Nat.one_mul, List.getElem?_append_right (by omega), hr, Nat.add_sub_cancel_left]
   exact hu
 · simp at hq
set_option maxRecDepth 100000 in
set_option maxHeartbeats 8000000 in
theorem awake20 (w : World) : Calls Tryz.prog 20 #[] w fun e w' => e = .returned (.bool true) ∧ Below w.heap.size w w' := by
 have hnew := new11 2 (by omega) (by omega) w
 go_enter Tryz.func20, Tryz.ntmps20
 go_upto_region 3 with (go_at_call 51; refine hnew.mono ?_; rintro e w1 ⟨iv, ov, mv, rfl, hb1, hs1⟩; obtain ⟨a1, n1, x1, a2, n2, x2, a3, n3, x3, rfl, rfl, rfl⟩ := hs1.slices)
 refine abs_world (F := fun wA => Below w.heap.size w wA ∧ Blk wA w1.heap.size #[.slice a1 n1 x1, .slice a2 n2 x2, .slice a3 n3 x3] 26 ∧ Blk wA (w1.heap.size + 1) #[.int .i64 0, .int .i64 0, .int .i64 0, .int .i64 0, .int .i64 0, .string ⟨#[47, 97]⟩, .string ⟨#[]⟩, .string ⟨#[]⟩] 28 ∧ StRead wA (.slice a1 n1 x1) (.slice a2 n2 x2) (.slice a3 n3 x3) (newSt 2)) ⟨hb1.trans ((bel w1 _).mono hb1.size), (Blk.new _ _ _).alloc _, Blk.new_i _ _ _ _, hs1.below (bel w1 _) (Nat.le_refl _)⟩ ?_
 generalize w1.heap.size = b1
 clear hb1 hs1 hnew
 rintro wA ⟨hbA, hkA, hcA, hsA⟩
 have k0 : wA.cell? ⟨b1, 0, none⟩ = some (.slice a1 n1 x1) := hkA.cell 0
 have k1 : wA.cell? ⟨b1, 1, none⟩ = some (.slice a2 n2 x2) := hkA.cell 1
 have k2 : wA.cell? ⟨b1, 2, none⟩ = some (.slice a3 n3 x3) := hkA.cell 2
 have ik := hkA.lt
 have ic := hcA.lt
 have c0 : wA.cell? ⟨b1 + 1, 0, none⟩ = some (.int .i64 0) := hcA.cell 0
 have c1 : wA.cell? ⟨b1 + 1, 1, none⟩ = some (.int .i64 0) := hcA.cell 1
 have c2 : wA.cell? ⟨b1 + 1, 2, none⟩ = some (.int .i64 0) := hcA.cell 2
 have c3 : wA.cell? ⟨b1 + 1, 3, none⟩ = some (.int .i64 0) := hcA.cell 3
 have c4 : wA.cell? ⟨b1 + 1, 4, none⟩ = some (.int .i64 0) := hcA.cell 4
 have c5 : wA.cell? ⟨b1 + 1, 5, none⟩ = some (.string ⟨#[47, 97]⟩) := hcA.cell 5
 have c6 : wA.cell? ⟨b1 + 1, 6, none⟩ = some (.string ⟨#[]⟩) := hcA.cell 6
 have c7 : wA.cell? ⟨b1 + 1, 7, none⟩ = some (.string ⟨#[]⟩) := hcA.cell 7
 have hkey : Calls Tryz.prog 12 #[.agg #[.slice a1 n1 x1, .slice a2 n2 x2, .slice a3 n3 x3], .agg #[.int .i64 0, .int .i64 0, .int .i64 0, .int .i64 0, .int .i64 0, .string ⟨#[47, 97]⟩, .string ⟨#[]⟩, .string ⟨#[]⟩]] wA fun e w' => Below wA.heap.size wA w' ∧ ∃ kv, e = .returned kv ∧ OwnP wA.heap.size w' 61 2 kv (ksA.map PKey.cells) := by
  have := keys12 _ _ _ (newSt 2) cA wA hsA awk_wf (by decide)
  unfold keysF at this
  rw [awk_may, if_pos rfl, keysM_eq] at this
  exact this
 have HA := Lib.hid (And.intro hbA (And.intro hkA (And.intro hcA hsA)))
 clear hbA hkA hcA hsA
 go_upto_region 4 with (go_at_call 12; refine hkey.mono ?_; rintro e w2 ⟨hb2, kv, rfl, hk2⟩)
 rcases hk2 with ⟨-, h2⟩ | ⟨gk, cap, arr, rfl, hgk, hkb, hkn, hkm, hks, hkr⟩
 · exfalso
   have := congrArg List.length h2
   rw [List.length_map, awk_len] at this
   cases this
 rw [List.length_map, awk_len]
 have hbw2 : Below w.heap.size w w2 := HA.out.1.trans (hb2.mono HA.out.1.size)
 have hB2 : Blk w2 b1 #[.slice a1 n1 x1, .slice a2 n2 x2, .slice a3 n3 x3] 26 ∧ Blk w2 (b1 + 1) #[.int .i64 0, .int .i64 0, .int .i64 0, .int .i64 0, .int .i64 0, .string ⟨#[47, 97]⟩, .string ⟨#[]⟩, .string ⟨#[]⟩] 28 := ⟨HA.out.2.1.below hb2 ik.lt, HA.out.2.2.1.below hb2 ic.lt⟩
 have hs2 := HA.out.2.2.2.below hb2 (Nat.le_refl _)
 have hkrow : RowAt w2 2 (.slice (some ⟨gk, 0, none⟩) 4 cap) (ksA.map PKey.cells) := by
  have := OwnP.row (B := 0) (e := 61) (.inr ⟨gk, cap, arr, rfl, Nat.zero_le _, hkb, hkn, hkm, hks, hkr⟩)
  rw [List.length_map, awk_len] at this
  exact this
 have q00 : w2.cell? ⟨gk, 0, none⟩ = some (.int .i64 (-1)) := (hkb.cell 0).trans (hkr 0 _ (by rw [List.getElem?_map, awk_0]; rfl) 0 _ rfl)
 have q01 : w2.cell? ⟨gk, 1, none⟩ = some (.string ⟨#[]⟩) := (hkb.cell 1).trans (hkr 0 _ (by rw [List.getElem?_map, awk_0]; rfl) 1 _ rfl)
 have q30 : w2.cell? ⟨gk, 6, none⟩ = some (.int .i64 2) := (hkb.cell 6).trans (hkr 3 _ (by rw [List.getElem?_map, awk_3]; rfl) 0 _ rfl)
 have q31 : w2.cell? ⟨gk, 7, none⟩ = some (.string ⟨#[]⟩) := (hkb.cell 7).trans (hkr 3 _ (by rw [List.getElem?_map, awk_3]; rfl) 1 _ rfl)
 have igk := hkb.lt
 have H2 := Lib.hid (And.intro hbw2 (And.intro hB2 (And.intro hs2 (And.intro hkrow (And.intro q00 (And.intro q01 (And.intro q30 q31)))))))
 clear k0 k1 k2 ik ic c0 c1 c2 c3 c4 c5 c6 c7 hkey hkb hkr hkn hkm hks hb2 HA q00 q01 q30 q31 hbw2 hs2 hkrow
 have dk0 : w2.cell? ⟨b1, 0, none⟩ = some (.slice a1 n1 x1) := (hB2.1).cell 0
 have dk1 : w2.cell? ⟨b1, 1, none⟩ = some (.slice a2 n2 x2) := (hB2.1).cell 1
 have dk2 : w2.cell? ⟨b1, 2, none⟩ = some (.slice a3 n3 x3) := (hB2.1).cell 2
 have dik := (hB2.1).lt
 have dic := (hB2.2).lt
 have dc0 : w2.cell? ⟨b1 + 1, 0, none⟩ = some (.int .i64 0) := (hB2.2).cell 0
 have dc1 : w2.cell? ⟨b1 + 1, 1, none⟩ = some (.int .i64 0) := (hB2.2).cell 1
 have dc2 : w2.cell? ⟨b1 + 1, 2, none⟩ = some (.int .i64 0) := (hB2.2).cell 2
 have dc3 : w2.cell? ⟨b1 + 1, 3, none⟩ = some (.int .i64 0) := (hB2.2).cell 3
 have dc4 : w2.cell? ⟨b1 + 1, 4, none⟩ = some (.int .i64 0) := (hB2.2).cell 4
 have dc5 : w2.cell? ⟨b1 + 1, 5, none⟩ = some (.string ⟨#[47, 97]⟩) := (hB2.2).cell 5
 have dc6 : w2.cell? ⟨b1 + 1, 6, none⟩ = some (.string ⟨#[]⟩) := (hB2.2).cell 6
 have dc7 : w2.cell? ⟨b1 + 1, 7, none⟩ = some (.string ⟨#[]⟩) := (hB2.2).cell 7
 clear hB2
 have hclo : ∀ ww, Below ((w2.alloc (.cells #[.int .i64 0, .int .i64 0, .int .i64 0, .int .i64 0, .int .i64 0, .string ⟨#[47, 97]⟩, .string ⟨#[]⟩, .string ⟨#[]⟩, .int .i64 2, .int .i64 1, .int .i64 0, .int .i64 0, .int .i64 0, .string ⟨#[47, 97]⟩, .string ⟨#[]⟩, .string ⟨#[]⟩] 28)).alloc (.cells #[.int .i64 1] 3)).heap.size ((w2.alloc (.cells #[.int .i64 0, .int .i64 0, .int .i64 0, .int .i64 0, .int .i64 0, .string ⟨#[47, 97]⟩, .string ⟨#[]⟩, .string ⟨#[]⟩, .int .i64 2, .int .i64 1, .int .i64 0, .int .i64 0, .int .i64 0, .string ⟨#[47, 97]⟩, .string ⟨#[]⟩, .string ⟨#[]⟩] 28)).alloc (.cells #[.int .i64 1] 3)) ww → Calls Tryz.prog 23 #[.agg #[.slice a1 n1 x1, .slice a2 n2 x2, .slice a3 n3 x3], .slice (some ⟨w2.heap.size, 0, none⟩) 2 2, .slice (some ⟨w2.heap.size + 1, 0, none⟩) 1 1] ww fun e w' => Below ww.heap.size ww w' ∧ ∃ g, e = .returned (.slice (some ⟨g, 0, none⟩) 2 2) ∧ ww.heap.size ≤ g ∧ Blk w' g (boolRow [true, true]) 4 := fun ww hb => by
  have hb0 := (bel w2 ((w2.alloc (.cells #[.int .i64 0, .int .i64 0, .int .i64 0, .int .i64 0, .int .i64 0, .string ⟨#[47, 97]⟩, .string ⟨#[]⟩, .string ⟨#[]⟩, .int .i64 2, .int .i64 1, .int .i64 0, .int .i64 0, .int .i64 0, .string ⟨#[47, 97]⟩, .string ⟨#[]⟩, .string ⟨#[]⟩] 28)).alloc (.cells #[.int .i64 1] 3))).trans (hb.mono (bel w2 _).size)
  have h1 : RowAt ww 8 (.slice (some ⟨w2.heap.size, 0, none⟩) 2 2) ([cA, cB].map PCall.cells) := row_blk (t := 28) ((((Blk.new w2 #[.int .i64 0, .int .i64 0, .int .i64 0, .int .i64 0, .int .i64 0, .string ⟨#[47, 97]⟩, .string ⟨#[]⟩, .string ⟨#[]⟩, .int .i64 2, .int .i64 1, .int .i64 0, .int .i64 0, .int .i64 0, .string ⟨#[47, 97]⟩, .string ⟨#[]⟩, .string ⟨#[]⟩] 28).alloc _).below hb (by simp; omega))) rfl (by decide) (rows2 (r := cA.cells) (s := cB.cells) rfl rfl)
  have h2 : RowAt ww 1 (.slice (some ⟨w2.heap.size + 1, 0, none⟩) 1 1) (([1] : List Int).map intCells) := row_blk (t := 3) ((Blk.new_i (w2.alloc (.cells #[.int .i64 0, .int .i64 0, .int .i64 0, .int .i64 0, .int .i64 0, .string ⟨#[47, 97]⟩, .string ⟨#[]⟩, .string ⟨#[]⟩, .int .i64 2, .int .i64 1, .int .i64 0, .int .i64 0, .int .i64 0, .string ⟨#[47, 97]⟩, .string ⟨#[]⟩, .string ⟨#[]⟩] 28)) #[.int .i64 1] 3 _).below hb (by simp)) rfl (by decide) (rows1 rfl)
  have := closure23 _ _ _ (newSt 2) [cA, cB] [1] _ _ ww (H2.out.2.2.1.below hb0 (Nat.le_refl _)) awk_wf h1 (by decide) (by decide) h2 (by decide) (by decide)
  rw [closureM_eq, awk_cl] at this
  exact this
 go_upto_region 5 with (go_at_call 23; refine (hclo _ (bel _ _)).mono ?_; rintro e w5 ⟨hb5, g5, rfl, hg5, hi5⟩)
 have hb52 : Below w2.heap.size w2 w5 := (bel w2 ((w2.alloc (.cells #[.int .i64 0, .int .i64 0, .int .i64 0, .int .i64 0, .int .i64 0, .string ⟨#[47, 97]⟩, .string ⟨#[]⟩, .string ⟨#[]⟩, .int .i64 2, .int .i64 1, .int .i64 0, .int .i64 0, .int .i64 0, .string ⟨#[47, 97]⟩, .string ⟨#[]⟩, .string ⟨#[]⟩] 28)).alloc (.cells #[.int .i64 1] 3))).trans (hb5.mono (bel w2 ((w2.alloc (.cells #[.int .i64 0, .int .i64 0, .int .i64 0, .int .i64 0, .int .i64 0, .string ⟨#[47, 97]⟩, .string ⟨#[]⟩, .string ⟨#[]⟩, .int .i64 2, .int .i64 1, .int .i64 0, .int .i64 0, .int .i64 0, .string ⟨#[47, 97]⟩, .string ⟨#[]⟩, .string ⟨#[]⟩] 28)).alloc (.cells #[.int .i64 1] 3))).size)
 have hbw5 : Below w.heap.size w w5 := H2.out.1.trans (hb52.mono H2.out.1.size)
 have hB5 : Blk w5 b1 #[.slice a1 n1 x1, .slice a2 n2 x2, .slice a3 n3 x3] 26 ∧ Blk w5 (b1 + 1) #[.int .i64 0, .int .i64 0, .int .i64 0, .int .i64 0, .int .i64 0, .string ⟨#[47, 97]⟩, .string ⟨#[]⟩, .string ⟨#[]⟩] 28 := ⟨H2.out.2.1.1.below hb52 dik.lt, H2.out.2.1.2.below hb52 dic.lt⟩
 have hs5 := H2.out.2.2.1.below hb52 (Nat.le_refl _)
 have hkrow := H2.out.2.2.2.1.below hb52 (Nat.le_refl _)
 have q00 : w5.cell? ⟨gk, 0, none⟩ = some (.int .i64 (-1)) := (hb52.cell (p := ⟨gk, 0, none⟩) igk.lt).trans H2.out.2.2.2.2.1
 have q01 : w5.cell? ⟨gk, 1, none⟩ = some (.string ⟨#[]⟩) := (hb52.cell (p := ⟨gk, 1, none⟩) igk.lt).trans H2.out.2.2.2.2.2.1
 have q30 : w5.cell? ⟨gk, 6, none⟩ = some (.int .i64 2) := (hb52.cell (p := ⟨gk, 6, none⟩) igk.lt).trans H2.out.2.2.2.2.2.2.1
 have q31 : w5.cell? ⟨gk, 7, none⟩ = some (.string ⟨#[]⟩) := (hb52.cell (p := ⟨gk, 7, none⟩) igk.lt).trans H2.out.2.2.2.2.2.2.2
 have igk5 : BlockLt gk w5 := ⟨by have := igk.lt; have := hb52.size; omega⟩
 have ig5 := hi5.lt
 clear dk0 dk1 dk2 dik dic dc0 dc1 dc2 dc3 dc4 dc5 dc6 dc7 hclo igk hb5 H2 hb52
 have hir : RowAt w5 1 (.slice (some ⟨g5, 0, none⟩) 2 2) (([true, true] : List Bool).map boolCells) := row_blk (t := 4) hi5 rfl (by decide) (rows2 (r := boolCells true) (s := boolCells true) rfl rfl)
 have ht1 : ∀ ww, Below w5.heap.size w5 ww → Calls Tryz.prog 17 #[.slice (some ⟨gk, 0, none⟩) 4 cap, .slice (some ⟨gk, 0, none⟩) 4 cap] ww fun e w' => e = .returned (.bool true) ∧ Below ww.heap.size ww w' := fun ww hb => by
  have := touch17 ksA ksA _ _ ww (hkrow.below hb (Nat.le_refl _)) (hkrow.below hb (Nat.le_refl _))
  rw [awk_t1] at this
  exact this
 have ht2 : ∀ b ww, Below w5.heap.size w5 ww → Blk ww b #[.int .i64 1, .string ⟨#[46]⟩] 61 → Calls Tryz.prog 17 #[.slice (some ⟨gk, 0, none⟩) 4 cap, .slice (some ⟨b, 0, none⟩) 1 1] ww fun e w' => e = .returned (.bool false) ∧ Below ww.heap.size ww w' := fun b ww hb hbk => by
  have := touch17 ksA [⟨1, ⟨#[46]⟩⟩] _ _ ww (hkrow.below hb (Nat.le_refl _)) (row_blk (t := 61) hbk rfl (by decide) (rows1 (r := PKey.cells ⟨1, ⟨#[46]⟩⟩) rfl))
  rw [awk_t2] at this
  exact this
 have hsb : ∀ b ww, Below w5.heap.size w5 ww → Blk ww b #[.bool true, .bool true] 4 → Calls Tryz.prog 25 #[.slice (some ⟨g5, 0, none⟩) 2 2, .slice (some ⟨b, 0, none⟩) 2 2] ww fun e w' => e = .returned (.bool true) ∧ Below ww.heap.size ww w' := fun b ww hb hbk => sameBools25 [true, true] [true, true] _ _ ww (hir.below hb (Nat.le_refl _)) (row_blk (t := 4) hbk rfl (by decide) (rows2 (r := boolCells true) (s := boolCells true) rfl rfl))
 have hcd : ∀ b b' ww, Below w5.heap.size w5 ww → Blk ww b #[.int .i64 0, .int .i64 0, .int .i64 0, .int .i64 0, .int .i64 0, .string ⟨#[47, 97]⟩, .string ⟨#[]⟩, .string ⟨#[]⟩] 28 → Blk ww b' #[.bool false] 4 → Calls Tryz.prog 26 #[.agg #[.slice a1 n1 x1, .slice a2 n2 x2, .slice a3 n3 x3], .slice (some ⟨b, 0, none⟩) 1 1, .slice (some ⟨b', 0, none⟩) 1 1] ww fun e w' => e = .returned (.bool true) ∧ Below ww.heap.size ww w' := fun b b' ww hb hbk hbk' => by
  have := closed26 _ _ _ (newSt 2) [cA] [false] _ _ ww (hs5.below hb (Nat.le_refl _)) awk_wf (row_blk (t := 28) hbk rfl (by decide) (rows1 (r := PCall.cells cA) rfl)) (by decide) (by decide) (row_blk (t := 4) hbk' rfl (by decide) (rows1 (r := boolCells false) rfl)) (by decide)
  rw [closedM_eq, awk_cd] at this
  exact this
 have dk0 : w5.cell? ⟨b1, 0, none⟩ = some (.slice a1 n1 x1) := (hB5.1).cell 0
 have dk1 : w5.cell? ⟨b1, 1, none⟩ = some (.slice a2 n2 x2) := (hB5.1).cell 1
 have dk2 : w5.cell? ⟨b1, 2, none⟩ = some (.slice a3 n3 x3) := (hB5.1).cell 2
 have dik := (hB5.1).lt
 have dic := (hB5.2).lt
 have dc0 : w5.cell? ⟨b1 + 1, 0, none⟩ = some (.int .i64 0) := (hB5.2).cell 0
 have dc1 : w5.cell? ⟨b1 + 1, 1, none⟩ = some (.int .i64 0) := (hB5.2).cell 1
 have dc2 : w5.cell? ⟨b1 + 1, 2, none⟩ = some (.int .i64 0) := (hB5.2).cell 2
 have dc3 : w5.cell? ⟨b1 + 1, 3, none⟩ = some (.int .i64 0) := (hB5.2).cell 3
 have dc4 : w5.cell? ⟨b1 + 1, 4, none⟩ = some (.int .i64 0) := (hB5.2).cell 4
 have dc5 : w5.cell? ⟨b1 + 1, 5, none⟩ = some (.string ⟨#[47, 97]⟩) := (hB5.2).cell 5
 have dc6 : w5.cell? ⟨b1 + 1, 6, none⟩ = some (.string ⟨#[]⟩) := (hB5.2).cell 6
 have dc7 : w5.cell? ⟨b1 + 1, 7, none⟩ = some (.string ⟨#[]⟩) := (hB5.2).cell 7
 have u0 := guard61
 have u1 : ∀ w, (binOp .eql 61 (.agg #[.int .i64 (-1), .string { data := #[] }]) (.agg #[.int .i64 (-1), .string { data := #[] }])).run Tryz.prog w = .ok (.bool true) w := fun w => by
  have := eql61 ⟨-1, ⟨#[]⟩⟩ ⟨-1, ⟨#[]⟩⟩ w
  rw [decide_eq_true rfl] at this
  exact this
 have u2 : ∀ w, (binOp .eql 61 (.agg #[.int .i64 2, .string { data := #[] }]) (.agg #[.int .i64 2, .string { data := #[] }])).run Tryz.prog w = .ok (.bool true) w := fun w => by
  have := eql61 ⟨2, ⟨#[]⟩⟩ ⟨2, ⟨#[]⟩⟩ w
  rw [decide_eq_true rfl] at this
  exact this
 have HB := Lib.hid hbw5
 clear hbw5 hB5 hs5 hkrow hir hi5 hg5
 go_wp2_with (first | (go_at_call 17; with_reducible refine (ht1 _ (bel _ _)).mono ?_; rintro e w' ⟨rfl, hb⟩; obtain ⟨p, rfl⟩ := hb.rest; clear hb) | (go_at_call 17; with_reducible refine (ht2 _ _ (bel _ _) (by exact Blk.new_i _ _ _ _)).mono ?_; rintro e w' ⟨rfl, hb⟩; obtain ⟨p, rfl⟩ := hb.rest; clear hb) | (go_at_call 25; refine (hsb _ _ (bel _ _) (by exact Blk.new_i _ _ _ _)).mono ?_; rintro e w' ⟨rfl, hb⟩; obtain ⟨p, rfl⟩ := hb.rest; clear hb) | (go_at_call 26; refine (hcd _ _ _ (bel _ _) (by repeat (first | exact Blk.new_i _ _ _ _ | refine Blk.alloc ?_ _)) (by repeat (first | exact Blk.new_i _ _ _ _ | refine Blk.alloc ?_ _))).mono ?_; rintro e w' ⟨rfl, hb⟩; obtain ⟨p, rfl⟩ := hb.rest; clear hb) | (go_at_call 35; refine (num35 _ _).mono ?_; rintro e w' ⟨rfl, hb⟩; obtain ⟨p, rfl⟩ := hb.rest; clear hb))
 go_ret
 exact ⟨rfl, HB.out.trans ((bel w5 _).mono HB.out.size)⟩
end Go.Proofs.YtmkapobnfigedaaGreatDoor
