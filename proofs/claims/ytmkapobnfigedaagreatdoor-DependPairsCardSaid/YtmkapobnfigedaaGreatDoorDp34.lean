/- Part of the proof of a law of chapter 15. Conditions: none. -/
import Derived.Test.YtmkapobnfigedaaGreatDoorDp33
set_option linter.unusedVariables false
set_option linter.unusedSimpArgs false
set_option maxRecDepth 100000
set_option maxHeartbeats 8000000
namespace Go.Proofs.YtmkapobnfigedaaGreatDoor
open Go.RowKit
theorem info61 : (Tryz.prog.info? 61).map (fun i => (i.zero, i.size, i.bytes)) = some (some (.agg #[.int .i64 0, .string { data := #[] }]), 2, 24) := by kernel_rfl
theorem app61 {w : World} {ops : Array Oper} {rest : List Oper} {o : Oper} {a : Act} {Q : Exit → Act → World → Prop} (hgd : o.guard = none) (s y : Operand)
 (hop : o.op = .call { callee := .builtin .append, args := #[s, y], argTypes := #[29, 29] }) (B : Nat) (v x : Value) (zs more : List PKey) (hs : a.eval s = v) (hy : a.eval y = x) (ho : OwnP B w 61 2 v (zs.map PKey.cells)) (hx : RowAt w 2 x (more.map PKey.cells)) (hl : zs.length + more.length ≤ 1000000000000) (hB : B ≤ w.heap.size)
 (h : ∀ v' w', Grew B 61 2 w v ((zs ++ more).map PKey.cells) v' w' → wpList Tryz.prog ops Q rest (a.put o.dst v') w') :
 wpList Tryz.prog ops Q (o :: rest) a w := by
 obtain ⟨i, hi, hz, h1, h2⟩ := info_parts info61
 refine wpList_append_P w hgd s y 29 hop B 61 2 24 i _ Tryz.underlying29 hi hz h1 h2 rfl (by decide) v x (zs.map PKey.cells) (more.map PKey.cells) hs hy (pkey_len _) (pkey_len _) (pkey_one _) ho hx ?_ ?_ hB ?_
 · rw [lM, lM]; unfold maxLen; omega
 · rw [lM, lM]; omega
 · intro v' w' hg; rw [← List.map_append] at hg; exact h v' w' hg
def InGa (w : World) (g : Nat) : Prop := ∃ c t, Blk w g c t ∧ (t = 61 ∨ t = 106)
theorem notInGa {w : World} {g : Nat} {c : Array Value} {t : TypeId} (h : Blk w g c t) (h1 : t ≠ 61) (h2 : t ≠ 106) : ¬ InGa w g := fun ⟨c', t', hb', ht'⟩ => by
 by_cases e : t = t'
 · subst e; rcases ht' with h | h
   · exact h1 h
   · exact h2 h
 · exact Blk.ne_ h hb' e rfl
structure GAt (w0 w : World) (S S' : PSt) (c : PCall) (bs bh bc : Nat) (ks : List PKey) : Prop where
 sp : SP w0 bs S
 sh : SP w0 bh S'
 cp : CP w0 bc c
 below : Below w0.heap.size w0 w
 own : ∃ out, Blk w w0.heap.size #[.pointer (some ⟨bs, 0, none⟩), .pointer (some ⟨bh, 0, none⟩), .pointer (some ⟨bc, 0, none⟩), out] 106 ∧ OwnP w0.heap.size w 61 2 out (ks.map PKey.cells)
section
variable {w0 w w' : World} {S S' : PSt} {c : PCall} {bs bh bc : Nat} {ks : List PKey}
theorem GAt.later (h : GAt w0 w S S' c bs bh bc ks) (hb : Below w.heap.size w w') : GAt w0 w' S S' c bs bh bc ks := by
 obtain ⟨h1, h2, h3, h4, out, h5, h6⟩ := h
 exact ⟨h1, h2, h3, h4.trans (hb.mono h4.size), out, h5.below hb h5.lt.lt, OwnP.keep h6 (Keep.of_below hb (fun _ => False)) (fun _ _ h => h)⟩
theorem add113 (h : GAt w0 w S S' c bs bh bc ks) (hl : ks.length ≤ 1000000) (n : Int) (s : ByteArray) :
 Calls Tryz.prog 113 #[.pointer (some ⟨w0.heap.size, 0, none⟩), .int .i64 n, .string s] w fun e w' => e = .returned (.tuple #[]) ∧ GAt w0 w' S S' c bs bh bc (ks ++ [⟨n, s⟩]) ∧ Keep (InGa w) w w' := by
 obtain ⟨h1, h2, h3, h4, out, h5, h6⟩ := h
 have iG := h5.lt
 have g3 : w.cell? ⟨w0.heap.size, 3, none⟩ = some out := h5.cell 3
 have hne := fun g hg => h6.ne_blk h5 (by decide) (g := g) hg
 have hle := h4.size
 have hin : ∀ g, out.ownBlock = some g → InGa w g := fun g hg => by
  rcases h6 with ⟨rfl, _⟩ | ⟨g', cap, arr, rfl, _, hb, _⟩
  · simp [Value.ownBlock] at hg
  · simp [Value.ownBlock] at hg; subst hg; exact ⟨_, _, hb, .inl rfl⟩
 have hig : InGa w w0.heap.size := ⟨_, _, h5, .inr rfl⟩
 have ho1 := h6.one
 have H6 := Lib.hid h6
 have H5 := Lib.hid h5
 clear h6 h5
 go_enter Tryz.func113, Tryz.ntmps113
 go_wp2_with (at_builtin; refine app61 rfl _ _ rfl w0.heap.size out (.slice (some ⟨w.heap.size, 0, none⟩) 1 1) ks [⟨n, s⟩] rfl rfl ?c1 ?c2 ?c3 ?c4 ?_)
 case c1 => exact OwnP.keep H6.out (Keep.of_below (bel w _) (fun _ => False)) (fun _ _ h => h)
 case c2 => exact (OwnP.row (B := 0) (e := 61) (.inr ⟨w.heap.size, 1, #[.int .i64 n, .string s], rfl, Nat.zero_le _, Blk.new _ _ _, Nat.le_refl _, by decide, rfl, fun q cs hq t u hu => by
  rcases q with _ | q
  · simp only [List.map_cons, List.map_nil, List.getElem?_cons_zero, Option.some.injEq] at hq; subst hq; rw [Nat.zero_mul, Nat.zero_add]; rcases t with _ | _ | t
    · exact hu
    · exact hu
    · simp [PKey.cells] at hu
  · simp at hq⟩))
 case c3 => simp; omega
 case c4 => simp; omega
 intro v' w1 hG
 obtain ⟨hown, hkeep, -⟩ := hG
 rw [show List.map PKey.cells ks ++ [PKey.cells ⟨n, s⟩] = (ks ++ ([⟨n, s⟩] : List PKey)).map PKey.cells by simp] at hown
 have hb1 : Blk w1 w0.heap.size #[.pointer (some ⟨bs, 0, none⟩), .pointer (some ⟨bh, 0, none⟩), .pointer (some ⟨bc, 0, none⟩), out] 106 := hkeep.blk (H5.out.alloc _) (fun hg => hne _ hg rfl)
 have iG1 := hb1.lt
 have g31 : w1.cell? ⟨w0.heap.size, 3, none⟩ = some out := hb1.cell 3
 have fz := hb1.frozen 3
 have hge : ∀ g, out.ownBlock = some g → w0.heap.size ≤ g := fun g hg => H6.out.ge hg
 have hkw : Keep (fun g => g = w0.heap.size ∨ out.ownBlock = some g) w w1 := (Keep.of_below (bel w (w.alloc (.cells #[.int .i64 n, .string s] 61))) (fun g => g = w0.heap.size ∨ out.ownBlock = some g)).trans hkeep (fun i hi hg => .inr hg)
 obtain ⟨av, nv, cv, rfl⟩ : ∃ av nv cv, v' = .slice av nv cv := by obtain ⟨a, c, h, -⟩ := hown.row; exact ⟨a, _, c, h⟩
 have hkf := hkw.setCell (p := ⟨w0.heap.size, 3, none⟩) (.inl (.inl rfl)) (.slice av nv cv)
 have hki := hkf.mono (S' := InGa w) (fun i hi hg => hg.elim (fun e => by rw [e]; exact hig) (hin i))
 have hbf := hb1.set_ 3 (.slice av nv cv)
 have hof : OwnP w0.heap.size (w1.setCell ⟨w0.heap.size, 3, none⟩ (.slice av nv cv)) 61 2 (.slice av nv cv) ((ks ++ ([⟨n, s⟩] : List PKey)).map PKey.cells) := OwnP.keep hown (Keep.setCell (S := fun g => g = w0.heap.size) (p := ⟨w0.heap.size, 3, none⟩) (Keep.refl _ w1) (.inl rfl) (.slice av nv cv)) (fun g hg hge => hown.ne_blk hb1 (by decide) hg hge)
 have hbl : Below w0.heap.size w0 (w1.setCell ⟨w0.heap.size, 3, none⟩ (.slice av nv cv)) := h4.trans (hkf.below hle (fun i hi hg => hg.elim (fun e => by omega) (fun e => by have := hge i e; omega)))
 have HF := Lib.hid (And.intro hki (And.intro hbf (And.intro hof hbl)))
 clear hown hkeep hkw hkf hki hbf hof hbl hin hig h4 g3 iG H6 H5 hne hge
 go_wp2_with fail
 exact bodyPost_end (v := .tuple #[]) (by simp [results, go_sem]) rfl ⟨rfl, ⟨h1, h2, h3, HF.out.2.2.2, _, HF.out.2.1, HF.out.2.2.1⟩, HF.out.1⟩
end
end Go.Proofs.YtmkapobnfigedaaGreatDoor
