/- Part of the proof that the named pairs of calls commute. Conditions: none. -/
import Derived.Test.YtjkenolgkkknaaaGreatDoorPp33
set_option linter.unusedVariables false
set_option linter.unusedSimpArgs false
set_option maxRecDepth 100000
set_option maxHeartbeats 8000000
namespace Go.Proofs.YtjkenolgkkknaaaGreatDoor
open Go.RowKit
theorem info5 : (Tryz.prog.info? 5).map (fun i => (i.zero, i.size, i.bytes)) = some (some (.int .u8 0), 1, 1) := by kernel_rfl
def byteC (x : Int) : List Value := [.int .u8 x]
theorem byteC_len : ∀ (zs : List Int), ∀ cs ∈ zs.map byteC, cs.length = 1 := by
 intro zs cs h
 obtain ⟨r, _, rfl⟩ := List.mem_map.1 h
 rfl
theorem byteC_one : ∀ (zs : List Int), ∀ cs ∈ zs.map byteC, ∀ u ∈ cs, u.oneCell' = true := by
 intro zs cs h u hu
 obtain ⟨r, _, rfl⟩ := List.mem_map.1 h
 simp only [byteC, List.mem_cons, List.not_mem_nil, or_false] at hu
 subst hu; rfl
theorem app5 {w : World} {ops : Array Oper} {rest : List Oper} {o : Oper} {a : Act} {Q : Exit → Act → World → Prop} (hgd : o.guard = none) (s y : Operand)
 (hop : o.op = .call { callee := .builtin .append, args := #[s, y], argTypes := #[43, 43] }) (B : Nat) (v x : Value) (zs more : List Int) (hs : a.eval s = v) (hy : a.eval y = x) (ho : OwnP B w 5 1 v (zs.map byteC)) (hx : RowAt w 1 x (more.map byteC)) (hl : zs.length + more.length ≤ 1000000000000) (hB : B ≤ w.heap.size)
 (h : ∀ v' w', Grew B 5 1 w v ((zs ++ more).map byteC) v' w' → wpList Tryz.prog ops Q rest (a.put o.dst v') w') :
 wpList Tryz.prog ops Q (o :: rest) a w := by
 obtain ⟨i, hi, hz, h1, h2⟩ := info_parts info5
 refine wpList_append_P w hgd s y 43 hop B 5 1 1 i _ Tryz.underlying43 hi hz h1 h2 rfl (by decide) v x (zs.map byteC) (more.map byteC) hs hy (byteC_len _) (byteC_len _) (byteC_one _) ho hx ?_ ?_ hB ?_
 · rw [lM, lM]; unfold maxLen; omega
 · rw [lM, lM]; omega
 · intro v' w' hg; rw [← List.map_append] at hg; exact h v' w' hg
theorem OwnP.single {B : Nat} {w : World} {b k : Nat} {t : TypeId} {cs : List Value} (h : Blk w b cs.toArray t) (hk : cs.length = k) (hB : B ≤ b) : OwnP B w t k (.slice (some ⟨b, 0, none⟩) 1 1) [cs] := by
 refine .inr ⟨b, 1, cs.toArray, rfl, hB, h, Nat.le_refl _, by unfold maxLen; omega, by simp [hk], fun q c hq u x hu => ?_⟩
 rcases q with _ | q
 · simp only [List.getElem?_cons_zero, Option.some.injEq] at hq; subst hq; simpa using hu
 · simp at hq
theorem OwnP.conv {B : Nat} {w : World} {v : Value} {zs : List Int} (h : OwnP B w 5 1 v (zs.map byteC)) (h0 : 0 < zs.length) : (convert 43 9 v).run Tryz.prog w = .ok (.string (strOfNums zs)) w := by
 rcases h with ⟨rfl, h1⟩ | ⟨g, cap, arr, rfl, hg, hb, hn, hm, hs, hr⟩
 · rw [List.map_eq_nil_iff] at h1; subst h1; simp at h0
 · rw [lM]; refine run_convert_bytes_arg w 43 5 Tryz.underlying43 Tryz.underlying5 g 0 zs.length cap zs rfl (fun i hi => ?_) 9 Tryz.underlying9; rw [hb.cell, Nat.zero_add]; have := hr i (byteC zs[i]) (by rw [gM, gE hi]; rfl) 0 _ rfl; rw [Nat.mul_one, Nat.add_zero] at this; rw [this]; simp [List.getD, gE hi]
def decN (n : Nat) : List Int := if n < 10 then [48 + (n : Int) % 10] else [48 + (n : Int) / 10 % 10, 48 + (n : Int) % 10]
def isNil : Value → Nat
 | .slice none _ _ => 1
 | _ => 0
theorem decimal33 (n : Nat) (hn : n < 100) (w : World) :
 Calls Tryz.prog 33 #[.int .i64 n] w fun e w' => e = .returned (.string (strOfNums (decN n))) ∧ Below w.heap.size w w' := by
 have hnI : (n : Int) < 100 := by omega
 have hn0 : ¬ (n : Int) < 0 := by omega
 have u1 : IntKind.u64.wrap (n : Int) = n := by simp [IntKind.wrap, IntKind.bits, IntKind.signed]; omega
 have m1 : (n : Int).tmod 10 = (n : Int) % 10 := Int.tmod_eq_emod_of_nonneg (by omega)
 have d1 : (n : Int).tdiv 10 = (n : Int) / 10 := Int.tdiv_eq_ediv_of_nonneg (by omega)
 obtain ⟨a, ha⟩ : ∃ a : Int, (n : Int) % 10 = a := ⟨_, rfl⟩
 obtain ⟨b, hb⟩ : ∃ b : Int, (n : Int) / 10 = b := ⟨_, rfl⟩
 have ha0 : 0 ≤ a ∧ a < 10 := by omega
 have hb0 : 0 ≤ b ∧ b < 10 := by omega
 have m2 : b.tmod 10 = b := by rw [Int.tmod_eq_emod_of_nonneg (by omega)]; omega
 have d2 : b.tdiv 10 = 0 := by rw [Int.tdiv_eq_ediv_of_nonneg (by omega)]; omega
 have hnb : (n < 10) ↔ b = 0 := by omega
 have hD : (if b = 0 then [48 + a] else [48 + b, 48 + a]) = decN n := by
  unfold decN; rw [hb, ha]; by_cases h : n < 10
  · rw [if_pos h, if_pos (hnb.1 h)]
  · rw [if_neg h, if_neg (fun e => h (hnb.2 e)), show b % 10 = b by omega]
 have u2 : IntKind.u64.wrap b = b := by simp [IntKind.wrap, IntKind.bits, IntKind.signed]; omega
 have u3 : IntKind.u64.wrap (48 + a) = 48 + a := by simp [IntKind.wrap, IntKind.bits, IntKind.signed]; omega
 have u4 : IntKind.u64.wrap (48 + b) = 48 + b := by simp [IntKind.wrap, IntKind.bits, IntKind.signed]; omega
 have u5 : IntKind.u8.wrap (48 + a) = 48 + a := by simp [IntKind.wrap, IntKind.bits, IntKind.signed]; omega
 have u6 : IntKind.u8.wrap (48 + b) = 48 + b := by simp [IntKind.wrap, IntKind.bits, IntKind.signed]; omega
 rw [ha] at m1
 rw [hb] at d1
 have HAB := Lib.hid (And.intro ha (And.intro hb (And.intro hnb hD)))
 clear ha hb hnb hD
 go_enter Tryz.func33, Tryz.ntmps33
 go_wp2_with fail
 go_loopw [3, 4] (fun v3 v4 wr => Below w.heap.size w wr ∧ ((v3 = .int .u64 n ∧ v4 = .slice none 0 0) ∨ (∃ g, v3 = .int .u64 b ∧ v4 = .slice (some ⟨g, 0, none⟩) 1 1 ∧ OwnP w.heap.size wr 5 1 (.slice (some ⟨g, 0, none⟩) 1 1) ([48 + a].map byteC)) ∨ (b ≠ 0 ∧ ∃ g c, v3 = .int .u64 0 ∧ v4 = .slice (some ⟨g, 0, none⟩) 2 c ∧ OwnP w.heap.size wr 5 1 (.slice (some ⟨g, 0, none⟩) 2 c) ([48 + b, 48 + a].map byteC)))) (fun v3 v4 _ => (intOf v3).toNat + isNil v4)
 case atStart => exact ⟨bel _ _, .inl ⟨rfl, rfl⟩⟩
 case round =>
  obtain ⟨hbw, h⟩ := hrel; have iB : Bel w wr := ⟨hbw⟩
  have g1 : ∀ (x y : Int), decide (x > y) = decide (y < x) := fun _ _ => rfl
  rcases h with ⟨rfl, rfl⟩ | ⟨g, rfl, rfl, hO⟩ | ⟨hbz, g, c, rfl, rfl, hO⟩
  · by_cases hz : (0 : Int) < n
    · go_wp2_with fail; refine ⟨⟨bel w _, .inr (.inl ⟨_, rfl, rfl, OwnP.single (Blk.new wr _ _) rfl hbw.size⟩)⟩, ?_⟩; simp [intOf, isNil]; have := HAB.out.2.1; omega
    · go_wp2_with fail; have h1 := HAB.out.1; have h2 := HAB.out.2.1; have ha00 : a = 0 := by omega
      refine ⟨⟨bel w _, by omega, ?_⟩, by simp [isNil]⟩; rw [ha00]; exact OwnP.single (Blk.new wr _ _) rfl hbw.size
  · by_cases hz : (0 : Int) < b
    · have HO := Lib.hid hO; clear hO; go_wp2_with (at_builtin; refine app5 rfl (.tmp 25) (.tmp 26) rfl w.heap.size _ _ [48 + b] [48 + a] rfl (by go_simp) (OwnP.single (Blk.new_i _ _ _ _) rfl (bel w _).size) (OwnP.below HO.out (bel wr _)).row (by simp) (bel w _).size ?_)
      intro v' w' hg; have hbg := hg.on (OwnP.single (Blk.new_i _ _ _ _) rfl (bel w _).size) (bel w _).size; have hb2 := (bel w _).trans hbg; have hO2 : OwnP w.heap.size w' 5 1 v' ([48 + b, 48 + a].map byteC) := hg.1; obtain ⟨va, vc, rfl⟩ := hO2.formL; obtain ⟨vg, rfl⟩ : ∃ vg, va = some ⟨vg, 0, none⟩ := by
       rcases hO2 with ⟨h, _⟩ | ⟨g, cap, arr, h, _⟩
       · cases h
       · cases h; exact ⟨g, rfl⟩
      have H2 := Lib.hid (And.intro hO2 hb2); clear hg hbg hO2 hb2; go_wp2_with fail; refine ⟨⟨H2.out.2, .inr (.inr ⟨by omega, vg, vc, rfl, rfl, H2.out.1⟩)⟩, ?_⟩; simp [intOf, isNil]; omega
    · have hb00 : b = 0 := by omega
      have hcv := hO.conv (by simp)
      go_wp2_with fail; refine bodyPost_ret (v := .string (strOfNums [48 + a])) (by unfold results; simp only [Tryz.results33]; go_simp) rfl ⟨?_, hbw⟩; rw [← HAB.out.2.2.2, if_pos hb00]
  · have hcv := hO.conv (by simp)
    go_wp2_with fail; refine bodyPost_ret (v := .string (strOfNums [48 + b, 48 + a])) (by unfold results; simp only [Tryz.results33]; go_simp) rfl ⟨?_, hbw⟩; rw [← HAB.out.2.2.2, if_neg hbz]
end Go.Proofs.YtjkenolgkkknaaaGreatDoor
