/- Part of the proof of a law of chapter 15. Conditions: none. -/
import Derived.Test.YtmkapobnfigedaaGreatDoorDp08
import Derived.Lib.AppendZerosOnto
set_option linter.unusedVariables false
set_option linter.unusedSimpArgs false
set_option maxRecDepth 100000
set_option maxHeartbeats 8000000
namespace Go.Proofs.YtmkapobnfigedaaGreatDoor
open Go.RowKit
theorem ov169 (w : World) (gv g o la ca lb cb : Nat) (A C : Array Value) (ha : Blk w gv A 97) (hb : Blk w g C 97) (hne : gv ≠ g) (hs : C.size ≠ 0) :
 (callFunc 212 #[.slice (some ⟨gv, 0, none⟩) la ca, .slice (some ⟨g, o, none⟩) lb cb]).run Tryz.prog w = .ok (.value (.bool false)) w := by
 have hsa : w.shape? gv = some (97, A.size) := by unfold World.shape?; rw [show w.heap[gv]? = some (.cells A 97 (0, 0)) from ha]
 have hsb : w.shape? g = some (97, C.size) := by unfold World.shape?; rw [show w.heap[g]? = some (.cells C 97 (0, 0)) from hb]
 rw [run_callFunc_extern Tryz.func212 (by kernel_rfl) (by kernel_rfl) (by kernel_rfl) (e := Extern.SlicesOverlaps.overlaps #[66, 66] #[4]) (by kernel_rfl),
  Lib.run_overlaps_apart w 66 4 97 Tryz.underlying66 2 (fun w => by kernel_rfl) ⟨gv, 0, none⟩ ⟨g, o, none⟩ la ca lb cb hne 97 97 A.size C.size hsa hsb hs (ha.frozen 0) (ha.frozen _)]
 rfl
theorem insert155 (B : Nat) (v : Value) (rows : List (List Value)) (i gv : Nat) (row : List Value) (w : World) (h : OwnP B w 97 2 v rows) (hu : ∀ cs ∈ rows, cs.length = 2) (h1r : ∀ cs ∈ rows, ∀ u ∈ cs, u.oneCell' = true) (hi : i ≤ rows.length) (hn : rows.length ≤ 1000000)
 (hgv : Blk w gv row.toArray 97) (hrl : row.length = 2) (h1 : ∀ u ∈ row, u.oneCell' = true) (hne : v.ownBlock ≠ some gv) (hB : B ≤ w.heap.size) :
 Calls Tryz.prog 202 #[v, .int .i64 i, .slice (some ⟨gv, 0, none⟩) 1 1] w fun e w' => ∃ v', e = .returned v' ∧ OwnP B w' 97 2 v' (rows.take i ++ row :: rows.drop i) ∧ Keep (fun k => v.ownBlock = some k) w w' ∧ ∀ k, v'.ownBlock = some k → v.ownBlock = some k ∨ w.heap.size ≤ k := by
 obtain ⟨i0, hi0, hz0, hz1, hz2⟩ := info_parts info99
 have hrow : ∀ j u, row[j]? = some u → w.cell? ((⟨gv, 0, none⟩ : Addr).add j) = some u := fun j u hj => by
  rw [Addr.add_lit]; show w.cell? ⟨gv, 0 + j, none⟩ = _; rw [hgv.cell, Nat.zero_add]; simpa using hj
 have hu' : ∀ cs ∈ rows ++ [row], cs.length = 2 := fun cs hc => by
  rcases List.mem_append.1 hc with h | h
  · exact hu cs h
  · rw [List.mem_singleton.1 h]; exact hrl
 have igv := hgv.lt
 rcases h with ⟨rfl, rfl⟩ | ⟨g, cap, arr, rfl, hgB, hgb, hnc, hcm, hsz, hri⟩
 · obtain rfl : i = 0 := by simpa using hi
   have HR := Lib.hid hrow; clear hrow hu hu' h1r hi hn
   go_enter Tryz.func202, Tryz.ntmps202
   go_wp2_with (at_builtin; refine wpList_append_own_at _ rfl (.tmp 23) (.tmp 24) 66 rfl B 97 i0 (.agg #[.string ByteArray.empty, .int .i64 0]) 2 24 Tryz.underlying66 hi0 hz0 hz1 hz2 rfl (by decide) (.slice none 0 0) 0 [] rfl (World.ownsRow_nil w B 97 2) ⟨gv, 0, none⟩ 1 1 row rfl hrl HR.out h1 (by unfold maxLen; omega) (by omega) hB ?_)
   intro v' w1 hown1 hgrow _ hloc; have hone1 := own_one hown1; have H1 := Lib.hid (And.intro hown1 (And.intro hgrow hloc)); clear hown1 hgrow hloc; go_wp2_with fail; go_ret; refine ⟨v', rfl, OwnP.of_own (rows := [row]) (by simpa using H1.out.1) (by decide) (fun cs h => by rw [List.mem_singleton.1 h]; exact hrl), (Keep.refl _ w).grown H1.out.2.1 (fun k hk => .inl hk), fun k hk => ?_⟩; rcases H1.out.2.2 with h | h
   · rw [h] at hk; exact .inl hk
   · rw [h] at hk; right; simp at hk; omega
 have h : OwnP B w 97 2 (.slice (some ⟨g, 0, none⟩) rows.length cap) rows := .inr ⟨g, cap, arr, rfl, hgB, hgb, hnc, hcm, hsz, hri⟩
 have hcm2 := hcm
 unfold maxLen at hcm2
 by_cases hin : i = rows.length
 · have hown := h.own (by decide) hu; have hfin : ∀ (v' : Value) (w1 : World), w1.ownsRow B 97 2 v' (rows.length + 1) (rows.flatten ++ row) → OwnP B w1 97 2 v' (rows.take i ++ row :: rows.drop i) := fun v' w1 ho => by
    rw [hin, List.take_length, List.drop_length]; exact OwnP.of_own (by rw [lP, List.length_singleton, List.flatten_append]; simpa using ho) (by decide) hu'
   have HF := Lib.hid hfin; have HO := Lib.hid hown; have HR := Lib.hid hrow; clear hfin hown hrow h hu' hu hgb hri hsz; have hiI : (i : Int) = rows.length := by omega
   subst hin; have key : ∀ (v' : Value) (w1 : World), w1.ownsRow B 97 2 v' (rows.length + 1) (rows.flatten ++ row) → w.grownBy w1 (some g) → (v'.ownBlock = some g ∨ v'.ownBlock = some w.heap.size) → ∃ v'', Ending.returned v' = .returned v'' ∧ OwnP B w1 97 2 v'' (rows.take rows.length ++ row :: rows.drop rows.length) ∧ Keep (fun k => (Value.slice (some ⟨g, 0, none⟩) rows.length cap).ownBlock = some k) w w1 ∧ ∀ k, v''.ownBlock = some k → (Value.slice (some ⟨g, 0, none⟩) rows.length cap).ownBlock = some k ∨ w.heap.size ≤ k := by
    intro v' w1 ho hg hl; refine ⟨v', rfl, HF.out v' w1 ho, (Keep.refl _ w).grown hg (fun k hk => .inl hk), fun k hk => ?_⟩; rcases hl with h | h
    · exact .inl (by rw [h] at hk; exact hk)
    · rw [h] at hk; right; simp at hk; omega
   have HK := Lib.hid key; clear key; by_cases hcc : cap = rows.length
   · subst hcc
     go_enter Tryz.func202, Tryz.ntmps202
     go_wp2_with (at_builtin; refine wpList_append_own_at _ rfl (.tmp 23) (.tmp 24) 66 rfl B 97 i0 (.agg #[.string ByteArray.empty, .int .i64 0]) 2 24 Tryz.underlying66 hi0 hz0 hz1 hz2 rfl (by decide) _ _ rows.flatten rfl HO.out ⟨gv, 0, none⟩ 1 1 row rfl hrl HR.out h1 (by unfold maxLen; omega) (by omega) hB ?_)
     intro v' w1 hown1 hgrow _ hloc; have hone1 := own_one hown1; have H1 := Lib.hid (And.intro hown1 (And.intro hgrow hloc)); clear hown1 hgrow hloc; go_wp2_with fail; go_ret; exact HK.out _ _ H1.out.1 H1.out.2.1 H1.out.2.2
   · have hcc2 : ¬ rows.length = cap := fun e => hcc e.symm
     go_enter Tryz.func202, Tryz.ntmps202
     go_wp2_with (at_builtin; refine wpList_append_own_at _ rfl (.tmp 23) (.tmp 24) 66 rfl B 97 i0 (.agg #[.string ByteArray.empty, .int .i64 0]) 2 24 Tryz.underlying66 hi0 hz0 hz1 hz2 rfl (by decide) _ _ rows.flatten rfl HO.out ⟨gv, 0, none⟩ 1 1 row rfl hrl HR.out h1 (by unfold maxLen; omega) (by omega) hB ?_)
     intro v' w1 hown1 hgrow _ hloc; have hone1 := own_one hown1; have H1 := Lib.hid (And.intro hown1 (And.intro hgrow hloc)); clear hown1 hgrow hloc; go_wp2_with fail; go_ret; exact HK.out _ _ H1.out.1 H1.out.2.1 H1.out.2.2
 · have hlt : i < rows.length := by omega
   have hcl := flat_len 2 rows hu; have hc1 : ∀ cs ∈ [rows.flatten], ∀ u ∈ cs, u.oneCell' = true := fun cs hc u hm => by
    rw [List.mem_singleton.1 hc] at hm; obtain ⟨cs', h1', h2'⟩ := List.mem_flatten.1 hm; exact h1r cs' h1' u h2'
   have hgn : gv ≠ g := fun e => hne (by rw [e]; rfl)
   have ig := hgb.lt; have hzi : ¬ ((i : Int) = (rows.length : Int)) := by omega
   have hci : ¬ (cap = i) := by omega
   have hiI : (i : Int) < rows.length := by omega
   by_cases hroom : rows.length + 1 ≤ cap
   · have hsz0 : arr.size ≠ 0 := by rw [hsz]; omega
     have hov : ∀ o lb cb, (callFunc 212 #[.slice (some ⟨gv, 0, none⟩) 1 1, .slice (some ⟨g, o, none⟩) lb cb]).run Tryz.prog w = .ok (.value (.bool false)) w := fun o lb cb => ov169 w gv g o 1 1 lb cb row.toArray arr hgv hgb hgn hsz0
     have hroomI : ¬ ((cap : Int) < (rows.length : Int) + 1) := by omega
     have hb3 : (i : Int) ≤ (rows.length : Int) + 1 := by omega
     have hb4 : i ≤ rows.length + 1 := by omega
     have hci2 : ¬ (cap = i + 1) := by omega
     have hw1 : IntKind.i64.wrap ((i : Int) + 1) = (i : Int) + 1 := by rw [IntKind.wrap_i64]; omega
     have hw2 : IntKind.i64.wrap ((rows.length : Int) + 1) = (rows.length : Int) + 1 := by rw [IntKind.wrap_i64]; omega
     obtain ⟨W1, hW1⟩ : ∃ W1, W1 = w.drew.setCells g ((i + 1) * 2) (rows.flatten.drop (i * 2)) := ⟨_, rfl⟩
     have hdl : (rows.flatten.drop (i * 2)).length = (rows.length - i) * 2 := by rw [List.length_drop, hcl, Nat.sub_mul]
     have hik : i * 2 + 2 ≤ rows.length * 2 := by omega
     have hcs := hri.flat hu; obtain ⟨c1, e1, e2, e3, e4⟩ := Blk.setCells_at g 97 (rows.flatten.drop (i * 2)) ((i + 1) * 2) w.drew arr hgb.drew (by rw [hdl, hsz]; omega); rw [← hW1] at e1; obtain ⟨c2, f1, f2, f3, f4⟩ := Blk.setCells_at g 97 row (i * 2) W1 c1 e1 (by rw [hrl, e2, hsz]; omega); have hkW : Keep (fun k => k = g) w.drew W1 := by rw [hW1]; exact Keep.setCells (S := fun k => k = g) rfl _ _ (Keep.refl _ _)
     have hgW : Blk W1 gv row.toArray 97 := hkW.blk hgv.drew hgn; have hcp1 : ∀ ty, (Builtin.copy_ #[66, 66] ty #[.slice (some ⟨g, (i + 1) * 2, none⟩) (rows.length - i) (cap - (i + 1)), .slice (some ⟨g, i * 2, none⟩) (rows.length + 1 - i) (cap - i)]).run Tryz.prog w.drew = .ok (goInt (Nat.min (rows.length + 1 - i) (rows.length - i))) W1 := fun ty => by
      rw [hW1]; refine run_copy_k w.drew 66 66 ty 97 g ((i + 1) * 2) (rows.length - i) (cap - (i + 1)) ⟨g, i * 2, none⟩ (rows.length + 1 - i) (cap - i) 2 (rows.flatten.drop (i * 2)) Tryz.underlying66 (by rw [hi0]; simp [hz1]) (by rw [hdl]; simp only [Nat.min_def]; split <;> omega) ?_ ?_ ?_ (fun v hv => hc1 _ (List.mem_singleton.2 rfl) v (List.mem_of_mem_drop hv))
      · intro j v hj; rw [Addr.add_lit]; show w.drew.cell? ⟨g, i * 2 + j, none⟩ = some v; rw [hgb.drew.cell]; rw [List.getElem?_drop] at hj; obtain ⟨hjl, _⟩ := gI.1 hj; rw [hcs _ (by omega)]; exact hj
      · intro j hj; rw [hgb.drew.cell, Array.getElem?_eq_getElem (by rw [hdl] at hj; rw [hsz]; omega)]; rfl
      · intro j hj; exact hgb.drew.frozen _
     have hcp2 : ∀ ty, (Builtin.copy_ #[66, 66] ty #[.slice (some ⟨g, i * 2, none⟩) (rows.length + 1 - i) (cap - i), .slice (some ⟨gv, 0, none⟩) 1 1]).run Tryz.prog W1 = .ok (goInt (Nat.min 1 (rows.length + 1 - i))) (W1.setCells g (i * 2) row) := fun ty => by
      refine run_copy_k W1 66 66 ty 97 g (i * 2) (rows.length + 1 - i) (cap - i) ⟨gv, 0, none⟩ 1 1 2 row Tryz.underlying66 (by rw [hi0]; simp [hz1]) (by rw [hrl]; simp only [Nat.min_def]; split <;> omega) ?_ ?_ ?_ h1
      · intro j v hj; rw [Addr.add_lit]; show W1.cell? ⟨gv, 0 + j, none⟩ = some v; rw [hgW.cell, Nat.zero_add]; simpa using hj
      · intro j hj; rw [e1.cell, Array.getElem?_eq_getElem (by rw [e2, hsz]; omega)]; rfl
      · intro j hj; exact e1.frozen _
     have hfin : ∃ v', Ending.returned (.slice (some ⟨g, 0, none⟩) (rows.length + 1) cap) = .returned v' ∧ OwnP B (W1.setCells g (i * 2) row) 97 2 v' (rows.take i ++ row :: rows.drop i) ∧ Keep (fun k => (Value.slice (some ⟨g, 0, none⟩) rows.length cap).ownBlock = some k) w (W1.setCells g (i * 2) row) ∧ ∀ k, v'.ownBlock = some k → (Value.slice (some ⟨g, 0, none⟩) rows.length cap).ownBlock = some k ∨ w.heap.size ≤ k := by
      refine ⟨_, rfl, .inr ⟨g, cap, c2, ?_, hgB, f1, ?_, hcm, by rw [f2, e2, hsz], ?_⟩, ?_, fun k hk => .inl hk⟩
      · rw [lP, List.length_take, List.length_cons, List.length_drop, show min i rows.length + (rows.length - i + 1) = rows.length + 1 by omega]
      · rw [lP, List.length_take, List.length_cons, List.length_drop]; omega
      · refine hri.insert hu hrl hi (fun j hj => ?_) (fun t ht => ?_) (fun j hj1 hj2 => ?_)
        · rw [f3 j (.inl hj), e3 j (.inl (by omega))]
        · exact f4 t (by omega)
        · rw [f3 (j + 2) (.inr (by omega)), show j + 2 = (i + 1) * 2 + (j - i * 2) by omega, e4 (j - i * 2) (by omega), List.getElem?_drop, show i * 2 + (j - i * 2) = j by omega, ← hcs j hj2]
      · have hk0 : Keep (fun k => k = g) w.drew (W1.setCells g (i * 2) row) := Keep.setCells (S := fun k => k = g) rfl _ _ hkW; have hk1 : Keep (fun k => k = g) w (W1.setCells g (i * 2) row) := (show Keep (fun k => k = g) w w.drew from (Keep.refl _ w).drew).trans hk0 (fun _ _ h => h); exact hk1.mono (fun k _ h => by rw [h]; rfl)
     have HFin := Lib.hid hfin; clear hfin e1 e2 e3 e4 f1 f2 f3 f4 hcs hkW hgW hW1; clear h hgb hri hgv hrow hu' hu hc1 hcl hsz
     go_enter Tryz.func202, Tryz.ntmps202
     go_wp2_with (simp only [hov])
     refine wp_region_eff [8] true (fun w' => True) (by kernel_rfl) (by kernel_rfl) ?_ ?_
     · trivial
     repeat
      refine wpL_look rfl rfl ?_; apply Exists.intro; refine ⟨?_, ?_⟩
      focus
       rintro w' -; go_simp
       first | done | rfl
      simp only [Act.put, sA, sZ, sS]
     refine wpL_do rfl rfl ?_; refine ⟨_, _, exec_copy rfl rfl rfl (hcp1 _), .inr ⟨rfl, rfl⟩, ?_⟩; simp only [Act.put, sA, sZ, sS]; refine wpL_end ?_; go_wp2_with (at_builtin; refine wpList_copy_runI _ rfl _ _ 66 66 rfl _ _ rfl rfl (hcp2 _) ?_)
     go_ret; exact HFin.out
   · obtain rfl : cap = rows.length := by omega
     have hcs := hri.flat hu; obtain ⟨G, hG⟩ : ∃ G, G = grownCap w (rows.length + 1) rows.length 97 := ⟨_, rfl⟩
     obtain ⟨ROW, hROW⟩ : ∃ ROW : Array Value, ROW = (rows.flatten.take (i * 2)).toArray ++ Builtin.zeroCells (.agg #[.string ByteArray.empty, .int .i64 0] : Value).cells (rows.length + 1 - i) ++ Builtin.zeroCells (.agg #[.string ByteArray.empty, .int .i64 0] : Value).cells (G - (rows.length + 1)) := ⟨_, rfl⟩
     have hGn : rows.length + 1 ≤ G := by rw [hG]; exact grownCap_ge w _ _ _
     have hGm : G ≤ maxLen := by rw [hG]; exact grownCap_le_maxLen w (rows.length + 1) rows.length 97 (by unfold maxLen; omega)
     have htl : (rows.flatten.take (i * 2)).length = i * 2 := by rw [List.length_take, hcl]; omega
     have hRs : ROW.size = G * 2 := by
      rw [hROW]; simp only [Array.size_append, List.size_toArray, htl, size_zeroCells]; show i * 2 + (rows.length + 1 - i) * 2 + (G - (rows.length + 1)) * 2 = G * 2; omega
     obtain ⟨Wa, hWa⟩ : ∃ Wa, Wa = w.drew.alloc (.cells ROW 97) := ⟨_, rfl⟩
     have ha : Blk Wa w.heap.size ROW 97 := by rw [hWa]; exact Blk.new w.drew _ _
     have hkk : (rows.length : Int) + 1 - (i : Int) = ((rows.length + 1 - i : Nat) : Int) := by omega
     have hik : i + (rows.length + 1 - i) = rows.length + 1 := by omega
     have hold : (Builtin.firstCells i0.size i (.slice (some ⟨g, 0, none⟩) i rows.length)).run Tryz.prog w.drew = .ok (rows.flatten.take (i * 2)).toArray w.drew := by
      rw [hz1]; refine run_firstCells_some w.drew 2 i ⟨g, 0, none⟩ i rows.length (rows.flatten.take (i * 2)) htl (fun j u hj => ?_); rw [Addr.add_lit]; show w.drew.cell? ⟨g, 0 + j, none⟩ = some u; rw [hgb.drew.cell, Nat.zero_add]; rw [List.getElem?_take] at hj
      split at hj
      · rw [hcs j (by omega)]; exact hj
      · cases hj
     have hrz : ∀ ty, (Builtin.append_ #[66, 3] ty #[.slice (some ⟨g, 0, none⟩) i rows.length, .int .i64 ((rows.length : Int) + 1 - (i : Int))]).run Tryz.prog w = .ok (.slice (some ⟨w.heap.size, 0, none⟩) (rows.length + 1) G) Wa := fun ty => by
      have h := Lib.run_append_grow_zeros w 66 3 ty 97 i0 _ .i64 .i64 Tryz.underlying66 Tryz.underlying3 hi0 hz0 (some ⟨g, 0, none⟩) i rows.length (rows.flatten.take (i * 2)) hold (rows.length + 1 - i) (by omega) (by rw [hz1]; decide) (by omega) (by omega) (by rw [hz2]; omega) (by rw [hz2, hik]; exact growslice_fits (by omega) (by omega)); rw [hik] at h; rw [hkk, hWa, hROW, hG]; exact h
     obtain ⟨c2, f1, f2, f3, f4⟩ := Blk.setCells_at w.heap.size 97 row (i * 2) Wa ROW ha (by rw [hrl, hRs]; omega); obtain ⟨Wb, hWb⟩ : ∃ Wb, Wb = Wa.setCells w.heap.size (i * 2) row := ⟨_, rfl⟩
     rw [← hWb] at f1; have hdl : (rows.flatten.drop (i * 2)).length = (rows.length - i) * 2 := by rw [List.length_drop, hcl, Nat.sub_mul]
     obtain ⟨c3, g1, g2, g3, g4⟩ := Blk.setCells_at w.heap.size 97 (rows.flatten.drop (i * 2)) ((i + 1) * 2) Wb.drew c2 f1.drew (by rw [hdl, f2, hRs]; omega); obtain ⟨Wc, hWc⟩ : ∃ Wc, Wc = Wb.drew.setCells w.heap.size ((i + 1) * 2) (rows.flatten.drop (i * 2)) := ⟨_, rfl⟩
     rw [← hWc] at g1; have hka : Keep (fun k => k = w.heap.size) w Wa := by rw [hWa]; exact (Keep.refl _ w).drew.alloc _
     have hkb : Keep (fun k => k = w.heap.size) w Wb := by rw [hWb]; exact Keep.setCells (S := fun k => k = w.heap.size) rfl _ _ hka
     have hkc : Keep (fun k => k = w.heap.size) w Wc := by rw [hWc]; exact Keep.setCells (S := fun k => k = w.heap.size) rfl _ _ hkb.drew
     have hga : Blk Wa gv row.toArray 97 := hka.blk hgv (by have := igv.lt; omega); have hgB' : Blk Wb.drew g arr 97 := (hkb.blk hgb (by have := ig.lt; omega)).drew; have hcpA : ∀ ty, (Builtin.copy_ #[66, 66] ty #[.slice (some ⟨w.heap.size, i * 2, none⟩) (rows.length + 1 - i) (G - i), .slice (some ⟨gv, 0, none⟩) 1 1]).run Tryz.prog Wa = .ok (goInt (Nat.min 1 (rows.length + 1 - i))) Wb := fun ty => by
      rw [hWb]; refine run_copy_k Wa 66 66 ty 97 w.heap.size (i * 2) (rows.length + 1 - i) (G - i) ⟨gv, 0, none⟩ 1 1 2 row Tryz.underlying66 (by rw [hi0]; simp [hz1]) (by rw [hrl]; simp only [Nat.min_def]; split <;> omega) ?_ ?_ ?_ h1
      · intro j v hj; rw [Addr.add_lit]; show Wa.cell? ⟨gv, 0 + j, none⟩ = some v; rw [hga.cell, Nat.zero_add]; simpa using hj
      · intro j hj; rw [ha.cell, Array.getElem?_eq_getElem (by rw [hRs]; omega)]; rfl
      · intro j hj; exact ha.frozen _
     have hcpB : ∀ ty, (Builtin.copy_ #[66, 66] ty #[.slice (some ⟨w.heap.size, (i + 1) * 2, none⟩) (rows.length - i) (G - (i + 1)), .slice (some ⟨g, i * 2, none⟩) (rows.length - i) (rows.length - i)]).run Tryz.prog Wb.drew = .ok (goInt (Nat.min (rows.length - i) (rows.length - i))) Wc := fun ty => by
      rw [hWc]; refine run_copy_k Wb.drew 66 66 ty 97 w.heap.size ((i + 1) * 2) (rows.length - i) (G - (i + 1)) ⟨g, i * 2, none⟩ (rows.length - i) (rows.length - i) 2 (rows.flatten.drop (i * 2)) Tryz.underlying66 (by rw [hi0]; simp [hz1]) (by rw [hdl]; simp only [Nat.min_def]; split <;> omega) ?_ ?_ ?_ (fun v hv => hc1 _ (List.mem_singleton.2 rfl) v (List.mem_of_mem_drop hv))
      · intro j v hj; rw [Addr.add_lit]; show Wb.drew.cell? ⟨g, i * 2 + j, none⟩ = some v; rw [hgB'.cell]; rw [List.getElem?_drop] at hj; obtain ⟨hjl, _⟩ := gI.1 hj; rw [hcs _ (by omega)]; exact hj
      · intro j hj; rw [f1.drew.cell, Array.getElem?_eq_getElem (by rw [hdl] at hj; rw [f2, hRs]; omega)]; rfl
      · intro j hj; exact f1.drew.frozen _
     have hfin : ∃ v', Ending.returned (.slice (some ⟨w.heap.size, 0, none⟩) (rows.length + 1) G) = .returned v' ∧ OwnP B Wc 97 2 v' (rows.take i ++ row :: rows.drop i) ∧ Keep (fun k => (Value.slice (some ⟨g, 0, none⟩) rows.length rows.length).ownBlock = some k) w Wc ∧ ∀ k, v'.ownBlock = some k → (Value.slice (some ⟨g, 0, none⟩) rows.length rows.length).ownBlock = some k ∨ w.heap.size ≤ k := by
      refine ⟨_, rfl, .inr ⟨w.heap.size, G, c3, ?_, hB, g1, ?_, hGm, by rw [g2, f2, hRs], ?_⟩, hkc.mono (fun k hk h => by omega), fun k hk => .inr (by simp [Value.ownBlock] at hk; omega)⟩
      · rw [lP, List.length_take, List.length_cons, List.length_drop, show min i rows.length + (rows.length - i + 1) = rows.length + 1 by omega]
      · rw [lP, List.length_take, List.length_cons, List.length_drop]; omega
      · refine hri.insert hu hrl hi (fun j hj => ?_) (fun t ht => ?_) (fun j hj1 hj2 => ?_)
        · rw [g3 j (.inl (by omega)), f3 j (.inl hj), hROW, Array.append_assoc, Array.getElem?_append_left (by simpa [htl] using hj), List.getElem?_toArray, List.getElem?_take, if_pos hj, hcs j (by omega)]
        · rw [g3 _ (.inl (by omega))]; exact f4 t (by omega)
        · rw [show j + 2 = (i + 1) * 2 + (j - i * 2) by omega, g4 (j - i * 2) (by omega), List.getElem?_drop, show i * 2 + (j - i * 2) = j by omega, ← hcs j hj2]
     have HFin := Lib.hid hfin; have hroomI : (rows.length : Int) < (rows.length : Int) + 1 := by omega
     have hw1 : IntKind.i64.wrap ((i : Int) + 1) = (i : Int) + 1 := by rw [IntKind.wrap_i64]; omega
     have hw2 : IntKind.i64.wrap ((rows.length : Int) + 1) = (rows.length : Int) + 1 := by rw [IntKind.wrap_i64]; omega
     have hGi : ¬ (G = i) := by omega
     have hGim : ¬ (G = i + 1) := by omega
     have hni : ¬ (rows.length = i) := by omega
     have hi3 : i ≤ rows.length + 1 := by omega
     have hi4 : i + 1 ≤ rows.length + 1 := by omega
     have hG64 : (G : Int) ≤ 9223372036854775807 := by unfold maxLen at hGm; omega
     clear hfin h hgb hri hgv hrow hu' hu hc1 hcl hsz hka hkb hkc hga hgB' f1 f2 f3 f4 g1 g2 g3 g4 ha hcs hold hkk hik hWa hWb hWc hROW hG hRs htl hdl
     go_enter Tryz.func202, Tryz.ntmps202
     go_wp2_with (first
      | (at_builtin; refine Lib.wpList_append_run _ rfl _ _ _ _ rfl _ _ rfl rfl _ _ (hrz _) ?_)
      | (at_builtin; refine wpList_copy_runI _ rfl _ _ 66 66 rfl _ _ rfl rfl (hcpA _) ?_))
     refine wp_region_eff [8] true (fun w' => True) (by kernel_rfl) (by kernel_rfl) ?_ ?_
     · trivial
     repeat
      refine wpL_look rfl rfl ?_; apply Exists.intro; refine ⟨?_, ?_⟩
      focus
       rintro w' -; go_simp
       first | done | rfl
      simp only [Act.put, sA, sZ, sS]
     refine wpL_do rfl rfl ?_; refine ⟨_, _, exec_copy rfl rfl rfl (hcpB _), .inr ⟨rfl, rfl⟩, ?_⟩; simp only [Act.put, sA, sZ, sS]; refine wpL_end ?_; go_wp2_with fail; go_ret; exact HFin.out
theorem ov156 (w : World) (gv g o la ca lb cb : Nat) (A C : Array Value) (ha : Blk w gv A 68) (hb : Blk w g C 68) (hne : gv ≠ g) (hs : C.size ≠ 0) :
 (callFunc 203 #[.slice (some ⟨gv, 0, none⟩) la ca, .slice (some ⟨g, o, none⟩) lb cb]).run Tryz.prog w = .ok (.value (.bool false)) w := by
 have hsa : w.shape? gv = some (68, A.size) := by unfold World.shape?; rw [show w.heap[gv]? = some (.cells A 68 (0, 0)) from ha]
 have hsb : w.shape? g = some (68, C.size) := by unfold World.shape?; rw [show w.heap[g]? = some (.cells C 68 (0, 0)) from hb]
 rw [run_callFunc_extern Tryz.func203 (by kernel_rfl) (by kernel_rfl) (by kernel_rfl) (e := Extern.SlicesOverlaps.overlaps #[22, 22] #[4]) (by kernel_rfl),
  Lib.run_overlaps_apart w 22 4 68 Tryz.underlying22 4 (fun w => by kernel_rfl) ⟨gv, 0, none⟩ ⟨g, o, none⟩ la ca lb cb hne 68 68 A.size C.size hsa hsb hs (ha.frozen 0) (ha.frozen _)]
 rfl
theorem insert121 (B : Nat) (v : Value) (rows : List (List Value)) (i gv : Nat) (row : List Value) (w : World) (h : OwnP B w 68 4 v rows) (hu : ∀ cs ∈ rows, cs.length = 4) (h1r : ∀ cs ∈ rows, ∀ u ∈ cs, u.oneCell' = true) (hi : i ≤ rows.length) (hn : rows.length ≤ 1000000)
 (hgv : Blk w gv row.toArray 68) (hrl : row.length = 4) (h1 : ∀ u ∈ row, u.oneCell' = true) (hne : v.ownBlock ≠ some gv) (hB : B ≤ w.heap.size) :
 Calls Tryz.prog 177 #[v, .int .i64 i, .slice (some ⟨gv, 0, none⟩) 1 1] w fun e w' => ∃ v', e = .returned v' ∧ OwnP B w' 68 4 v' (rows.take i ++ row :: rows.drop i) ∧ Keep (fun k => v.ownBlock = some k) w w' ∧ ∀ k, v'.ownBlock = some k → v.ownBlock = some k ∨ w.heap.size ≤ k := by
 obtain ⟨i0, hi0, hz0, hz1, hz2⟩ := info_parts info65
 have hrow : ∀ j u, row[j]? = some u → w.cell? ((⟨gv, 0, none⟩ : Addr).add j) = some u := fun j u hj => by
  rw [Addr.add_lit]; show w.cell? ⟨gv, 0 + j, none⟩ = _; rw [hgv.cell, Nat.zero_add]; simpa using hj
 have hu' : ∀ cs ∈ rows ++ [row], cs.length = 4 := fun cs hc => by
  rcases List.mem_append.1 hc with h | h
  · exact hu cs h
  · rw [List.mem_singleton.1 h]; exact hrl
 have igv := hgv.lt
 rcases h with ⟨rfl, rfl⟩ | ⟨g, cap, arr, rfl, hgB, hgb, hnc, hcm, hsz, hri⟩
 · obtain rfl : i = 0 := by simpa using hi
   have HR := Lib.hid hrow; clear hrow hu hu' h1r hi hn
   go_enter Tryz.func177, Tryz.ntmps177
   go_wp2_with (at_builtin; refine wpList_append_own_at _ rfl (.tmp 23) (.tmp 24) 22 rfl B 68 i0 (.agg #[.int .i64 0, .bool false, .slice none 0 0, .string ByteArray.empty]) 4 56 Tryz.underlying22 hi0 hz0 hz1 hz2 rfl (by decide) (.slice none 0 0) 0 [] rfl (World.ownsRow_nil w B 68 4) ⟨gv, 0, none⟩ 1 1 row rfl hrl HR.out h1 (by unfold maxLen; omega) (by omega) hB ?_)
   intro v' w1 hown1 hgrow _ hloc; have hone1 := own_one hown1; have H1 := Lib.hid (And.intro hown1 (And.intro hgrow hloc)); clear hown1 hgrow hloc; go_wp2_with fail; go_ret; refine ⟨v', rfl, OwnP.of_own (rows := [row]) (by simpa using H1.out.1) (by decide) (fun cs h => by rw [List.mem_singleton.1 h]; exact hrl), (Keep.refl _ w).grown H1.out.2.1 (fun k hk => .inl hk), fun k hk => ?_⟩; rcases H1.out.2.2 with h | h
   · rw [h] at hk; exact .inl hk
   · rw [h] at hk; right; simp at hk; omega
 have h : OwnP B w 68 4 (.slice (some ⟨g, 0, none⟩) rows.length cap) rows := .inr ⟨g, cap, arr, rfl, hgB, hgb, hnc, hcm, hsz, hri⟩
 have hcm2 := hcm
 unfold maxLen at hcm2
 by_cases hin : i = rows.length
 · have hown := h.own (by decide) hu; have hfin : ∀ (v' : Value) (w1 : World), w1.ownsRow B 68 4 v' (rows.length + 1) (rows.flatten ++ row) → OwnP B w1 68 4 v' (rows.take i ++ row :: rows.drop i) := fun v' w1 ho => by
    rw [hin, List.take_length, List.drop_length]; exact OwnP.of_own (by rw [lP, List.length_singleton, List.flatten_append]; simpa using ho) (by decide) hu'
   have HF := Lib.hid hfin; have HO := Lib.hid hown; have HR := Lib.hid hrow; clear hfin hown hrow h hu' hu hgb hri hsz; have hiI : (i : Int) = rows.length := by omega
   subst hin; have key : ∀ (v' : Value) (w1 : World), w1.ownsRow B 68 4 v' (rows.length + 1) (rows.flatten ++ row) → w.grownBy w1 (some g) → (v'.ownBlock = some g ∨ v'.ownBlock = some w.heap.size) → ∃ v'', Ending.returned v' = .returned v'' ∧ OwnP B w1 68 4 v'' (rows.take rows.length ++ row :: rows.drop rows.length) ∧ Keep (fun k => (Value.slice (some ⟨g, 0, none⟩) rows.length cap).ownBlock = some k) w w1 ∧ ∀ k, v''.ownBlock = some k → (Value.slice (some ⟨g, 0, none⟩) rows.length cap).ownBlock = some k ∨ w.heap.size ≤ k := by
    intro v' w1 ho hg hl; refine ⟨v', rfl, HF.out v' w1 ho, (Keep.refl _ w).grown hg (fun k hk => .inl hk), fun k hk => ?_⟩; rcases hl with h | h
    · exact .inl (by rw [h] at hk; exact hk)
    · rw [h] at hk; right; simp at hk; omega
   have HK := Lib.hid key; clear key; by_cases hcc : cap = rows.length
   · subst hcc
     go_enter Tryz.func177, Tryz.ntmps177
     go_wp2_with (at_builtin; refine wpList_append_own_at _ rfl (.tmp 23) (.tmp 24) 22 rfl B 68 i0 (.agg #[.int .i64 0, .bool false, .slice none 0 0, .string ByteArray.empty]) 4 56 Tryz.underlying22 hi0 hz0 hz1 hz2 rfl (by decide) _ _ rows.flatten rfl HO.out ⟨gv, 0, none⟩ 1 1 row rfl hrl HR.out h1 (by unfold maxLen; omega) (by omega) hB ?_)
     intro v' w1 hown1 hgrow _ hloc; have hone1 := own_one hown1; have H1 := Lib.hid (And.intro hown1 (And.intro hgrow hloc)); clear hown1 hgrow hloc; go_wp2_with fail; go_ret; exact HK.out _ _ H1.out.1 H1.out.2.1 H1.out.2.2
   · have hcc2 : ¬ rows.length = cap := fun e => hcc e.symm
     go_enter Tryz.func177, Tryz.ntmps177
     go_wp2_with (at_builtin; refine wpList_append_own_at _ rfl (.tmp 23) (.tmp 24) 22 rfl B 68 i0 (.agg #[.int .i64 0, .bool false, .slice none 0 0, .string ByteArray.empty]) 4 56 Tryz.underlying22 hi0 hz0 hz1 hz2 rfl (by decide) _ _ rows.flatten rfl HO.out ⟨gv, 0, none⟩ 1 1 row rfl hrl HR.out h1 (by unfold maxLen; omega) (by omega) hB ?_)
     intro v' w1 hown1 hgrow _ hloc; have hone1 := own_one hown1; have H1 := Lib.hid (And.intro hown1 (And.intro hgrow hloc)); clear hown1 hgrow hloc; go_wp2_with fail; go_ret; exact HK.out _ _ H1.out.1 H1.out.2.1 H1.out.2.2
 · have hlt : i < rows.length := by omega
   have hcl := flat_len 4 rows hu; have hc1 : ∀ cs ∈ [rows.flatten], ∀ u ∈ cs, u.oneCell' = true := fun cs hc u hm => by
    rw [List.mem_singleton.1 hc] at hm; obtain ⟨cs', h1', h2'⟩ := List.mem_flatten.1 hm; exact h1r cs' h1' u h2'
   have hgn : gv ≠ g := fun e => hne (by rw [e]; rfl)
   have ig := hgb.lt; have hzi : ¬ ((i : Int) = (rows.length : Int)) := by omega
   have hci : ¬ (cap = i) := by omega
   have hiI : (i : Int) < rows.length := by omega
   by_cases hroom : rows.length + 1 ≤ cap
   · have hsz0 : arr.size ≠ 0 := by rw [hsz]; omega
     have hov : ∀ o lb cb, (callFunc 203 #[.slice (some ⟨gv, 0, none⟩) 1 1, .slice (some ⟨g, o, none⟩) lb cb]).run Tryz.prog w = .ok (.value (.bool false)) w := fun o lb cb => ov156 w gv g o 1 1 lb cb row.toArray arr hgv hgb hgn hsz0
     have hroomI : ¬ ((cap : Int) < (rows.length : Int) + 1) := by omega
     have hb3 : (i : Int) ≤ (rows.length : Int) + 1 := by omega
     have hb4 : i ≤ rows.length + 1 := by omega
     have hci2 : ¬ (cap = i + 1) := by omega
     have hw1 : IntKind.i64.wrap ((i : Int) + 1) = (i : Int) + 1 := by rw [IntKind.wrap_i64]; omega
     have hw2 : IntKind.i64.wrap ((rows.length : Int) + 1) = (rows.length : Int) + 1 := by rw [IntKind.wrap_i64]; omega
     obtain ⟨W1, hW1⟩ : ∃ W1, W1 = w.drew.setCells g ((i + 1) * 4) (rows.flatten.drop (i * 4)) := ⟨_, rfl⟩
     have hdl : (rows.flatten.drop (i * 4)).length = (rows.length - i) * 4 := by rw [List.length_drop, hcl, Nat.sub_mul]
     have hik : i * 4 + 4 ≤ rows.length * 4 := by omega
     have hcs := hri.flat hu; obtain ⟨c1, e1, e2, e3, e4⟩ := Blk.setCells_at g 68 (rows.flatten.drop (i * 4)) ((i + 1) * 4) w.drew arr hgb.drew (by rw [hdl, hsz]; omega); rw [← hW1] at e1; obtain ⟨c2, f1, f2, f3, f4⟩ := Blk.setCells_at g 68 row (i * 4) W1 c1 e1 (by rw [hrl, e2, hsz]; omega); have hkW : Keep (fun k => k = g) w.drew W1 := by rw [hW1]; exact Keep.setCells (S := fun k => k = g) rfl _ _ (Keep.refl _ _)
     have hgW : Blk W1 gv row.toArray 68 := hkW.blk hgv.drew hgn; have hcp1 : ∀ ty, (Builtin.copy_ #[22, 22] ty #[.slice (some ⟨g, (i + 1) * 4, none⟩) (rows.length - i) (cap - (i + 1)), .slice (some ⟨g, i * 4, none⟩) (rows.length + 1 - i) (cap - i)]).run Tryz.prog w.drew = .ok (goInt (Nat.min (rows.length + 1 - i) (rows.length - i))) W1 := fun ty => by
      rw [hW1]; refine run_copy_k w.drew 22 22 ty 68 g ((i + 1) * 4) (rows.length - i) (cap - (i + 1)) ⟨g, i * 4, none⟩ (rows.length + 1 - i) (cap - i) 4 (rows.flatten.drop (i * 4)) Tryz.underlying22 (by rw [hi0]; simp [hz1]) (by rw [hdl]; simp only [Nat.min_def]; split <;> omega) ?_ ?_ ?_ (fun v hv => hc1 _ (List.mem_singleton.2 rfl) v (List.mem_of_mem_drop hv))
      · intro j v hj; rw [Addr.add_lit]; show w.drew.cell? ⟨g, i * 4 + j, none⟩ = some v; rw [hgb.drew.cell]; rw [List.getElem?_drop] at hj; obtain ⟨hjl, _⟩ := gI.1 hj; rw [hcs _ (by omega)]; exact hj
      · intro j hj; rw [hgb.drew.cell, Array.getElem?_eq_getElem (by rw [hdl] at hj; rw [hsz]; omega)]; rfl
      · intro j hj; exact hgb.drew.frozen _
     have hcp2 : ∀ ty, (Builtin.copy_ #[22, 22] ty #[.slice (some ⟨g, i * 4, none⟩) (rows.length + 1 - i) (cap - i), .slice (some ⟨gv, 0, none⟩) 1 1]).run Tryz.prog W1 = .ok (goInt (Nat.min 1 (rows.length + 1 - i))) (W1.setCells g (i * 4) row) := fun ty => by
      refine run_copy_k W1 22 22 ty 68 g (i * 4) (rows.length + 1 - i) (cap - i) ⟨gv, 0, none⟩ 1 1 4 row Tryz.underlying22 (by rw [hi0]; simp [hz1]) (by rw [hrl]; simp only [Nat.min_def]; split <;> omega) ?_ ?_ ?_ h1
      · intro j v hj; rw [Addr.add_lit]; show W1.cell? ⟨gv, 0 + j, none⟩ = some v; rw [hgW.cell, Nat.zero_add]; simpa using hj
      · intro j hj; rw [e1.cell, Array.getElem?_eq_getElem (by rw [e2, hsz]; omega)]; rfl
      · intro j hj; exact e1.frozen _
     have hfin : ∃ v', Ending.returned (.slice (some ⟨g, 0, none⟩) (rows.length + 1) cap) = .returned v' ∧ OwnP B (W1.setCells g (i * 4) row) 68 4 v' (rows.take i ++ row :: rows.drop i) ∧ Keep (fun k => (Value.slice (some ⟨g, 0, none⟩) rows.length cap).ownBlock = some k) w (W1.setCells g (i * 4) row) ∧ ∀ k, v'.ownBlock = some k → (Value.slice (some ⟨g, 0, none⟩) rows.length cap).ownBlock = some k ∨ w.heap.size ≤ k := by
      refine ⟨_, rfl, .inr ⟨g, cap, c2, ?_, hgB, f1, ?_, hcm, by rw [f2, e2, hsz], ?_⟩, ?_, fun k hk => .inl hk⟩
      · rw [lP, List.length_take, List.length_cons, List.length_drop, show min i rows.length + (rows.length - i + 1) = rows.length + 1 by omega]
      · rw [lP, List.length_take, List.length_cons, List.length_drop]; omega
      · refine hri.insert hu hrl hi (fun j hj => ?_) (fun t ht => ?_) (fun j hj1 hj2 => ?_)
        · rw [f3 j (.inl hj), e3 j (.inl (by omega))]
        · exact f4 t (by omega)
        · rw [f3 (j + 4) (.inr (by omega)), show j + 4 = (i + 1) * 4 + (j - i * 4) by omega, e4 (j - i * 4) (by omega), List.getElem?_drop, show i * 4 + (j - i * 4) = j by omega, ← hcs j hj2]
      · have hk0 : Keep (fun k => k = g) w.drew (W1.setCells g (i * 4) row) := Keep.setCells (S := fun k => k = g) rfl _ _ hkW; have hk1 : Keep (fun k => k = g) w (W1.setCells g (i * 4) row) := (show Keep (fun k => k = g) w w.drew from (Keep.refl _ w).drew).trans hk0 (fun _ _ h => h); exact hk1.mono (fun k _ h => by rw [h]; rfl)
     have HFin := Lib.hid hfin; clear hfin e1 e2 e3 e4 f1 f2 f3 f4 hcs hkW hgW hW1; clear h hgb hri hgv hrow hu' hu hc1 hcl hsz
     go_enter Tryz.func177, Tryz.ntmps177
     go_wp2_with (simp only [hov])
     refine wp_region_eff [8] true (fun w' => True) (by kernel_rfl) (by kernel_rfl) ?_ ?_
     · trivial
     repeat
      refine wpL_look rfl rfl ?_; apply Exists.intro; refine ⟨?_, ?_⟩
      focus
       rintro w' -; go_simp
       first | done | rfl
      simp only [Act.put, sA, sZ, sS]
     refine wpL_do rfl rfl ?_; refine ⟨_, _, exec_copy rfl rfl rfl (hcp1 _), .inr ⟨rfl, rfl⟩, ?_⟩; simp only [Act.put, sA, sZ, sS]; refine wpL_end ?_; go_wp2_with (at_builtin; refine wpList_copy_runI _ rfl _ _ 22 22 rfl _ _ rfl rfl (hcp2 _) ?_)
     go_ret; exact HFin.out
   · obtain rfl : cap = rows.length := by omega
     have hcs := hri.flat hu; obtain ⟨G, hG⟩ : ∃ G, G = grownCap w (rows.length + 1) rows.length 68 := ⟨_, rfl⟩
     obtain ⟨ROW, hROW⟩ : ∃ ROW : Array Value, ROW = (rows.flatten.take (i * 4)).toArray ++ Builtin.zeroCells (.agg #[.int .i64 0, .bool false, .slice none 0 0, .string ByteArray.empty] : Value).cells (rows.length + 1 - i) ++ Builtin.zeroCells (.agg #[.int .i64 0, .bool false, .slice none 0 0, .string ByteArray.empty] : Value).cells (G - (rows.length + 1)) := ⟨_, rfl⟩
     have hGn : rows.length + 1 ≤ G := by rw [hG]; exact grownCap_ge w _ _ _
     have hGm : G ≤ maxLen := by rw [hG]; exact grownCap_le_maxLen w (rows.length + 1) rows.length 68 (by unfold maxLen; omega)
     have htl : (rows.flatten.take (i * 4)).length = i * 4 := by rw [List.length_take, hcl]; omega
     have hRs : ROW.size = G * 4 := by
      rw [hROW]; simp only [Array.size_append, List.size_toArray, htl, size_zeroCells]; show i * 4 + (rows.length + 1 - i) * 4 + (G - (rows.length + 1)) * 4 = G * 4; omega
     obtain ⟨Wa, hWa⟩ : ∃ Wa, Wa = w.drew.alloc (.cells ROW 68) := ⟨_, rfl⟩
     have ha : Blk Wa w.heap.size ROW 68 := by rw [hWa]; exact Blk.new w.drew _ _
     have hkk : (rows.length : Int) + 1 - (i : Int) = ((rows.length + 1 - i : Nat) : Int) := by omega
     have hik : i + (rows.length + 1 - i) = rows.length + 1 := by omega
     have hold : (Builtin.firstCells i0.size i (.slice (some ⟨g, 0, none⟩) i rows.length)).run Tryz.prog w.drew = .ok (rows.flatten.take (i * 4)).toArray w.drew := by
      rw [hz1]; refine run_firstCells_some w.drew 4 i ⟨g, 0, none⟩ i rows.length (rows.flatten.take (i * 4)) htl (fun j u hj => ?_); rw [Addr.add_lit]; show w.drew.cell? ⟨g, 0 + j, none⟩ = some u; rw [hgb.drew.cell, Nat.zero_add]; rw [List.getElem?_take] at hj
      split at hj
      · rw [hcs j (by omega)]; exact hj
      · cases hj
     have hrz : ∀ ty, (Builtin.append_ #[22, 3] ty #[.slice (some ⟨g, 0, none⟩) i rows.length, .int .i64 ((rows.length : Int) + 1 - (i : Int))]).run Tryz.prog w = .ok (.slice (some ⟨w.heap.size, 0, none⟩) (rows.length + 1) G) Wa := fun ty => by
      have h := Lib.run_append_grow_zeros w 22 3 ty 68 i0 _ .i64 .i64 Tryz.underlying22 Tryz.underlying3 hi0 hz0 (some ⟨g, 0, none⟩) i rows.length (rows.flatten.take (i * 4)) hold (rows.length + 1 - i) (by omega) (by rw [hz1]; decide) (by omega) (by omega) (by rw [hz2]; omega) (by rw [hz2, hik]; exact growslice_fits (by omega) (by omega)); rw [hik] at h; rw [hkk, hWa, hROW, hG]; exact h
     obtain ⟨c2, f1, f2, f3, f4⟩ := Blk.setCells_at w.heap.size 68 row (i * 4) Wa ROW ha (by rw [hrl, hRs]; omega); obtain ⟨Wb, hWb⟩ : ∃ Wb, Wb = Wa.setCells w.heap.size (i * 4) row := ⟨_, rfl⟩
     rw [← hWb] at f1; have hdl : (rows.flatten.drop (i * 4)).length = (rows.length - i) * 4 := by rw [List.length_drop, hcl, Nat.sub_mul]
     obtain ⟨c3, g1, g2, g3, g4⟩ := Blk.setCells_at w.heap.size 68 (rows.flatten.drop (i * 4)) ((i + 1) * 4) Wb.drew c2 f1.drew (by rw [hdl, f2, hRs]; omega); obtain ⟨Wc, hWc⟩ : ∃ Wc, Wc = Wb.drew.setCells w.heap.size ((i + 1) * 4) (rows.flatten.drop (i * 4)) := ⟨_, rfl⟩
     rw [← hWc] at g1; have hka : Keep (fun k => k = w.heap.size) w Wa := by rw [hWa]; exact (Keep.refl _ w).drew.alloc _
     have hkb : Keep (fun k => k = w.heap.size) w Wb := by rw [hWb]; exact Keep.setCells (S := fun k => k = w.heap.size) rfl _ _ hka
     have hkc : Keep (fun k => k = w.heap.size) w Wc := by rw [hWc]; exact Keep.setCells (S := fun k => k = w.heap.size) rfl _ _ hkb.drew
     have hga : Blk Wa gv row.toArray 68 := hka.blk hgv (by have := igv.lt; omega); have hgB' : Blk Wb.drew g arr 68 := (hkb.blk hgb (by have := ig.lt; omega)).drew; have hcpA : ∀ ty, (Builtin.copy_ #[22, 22] ty #[.slice (some ⟨w.heap.size, i * 4, none⟩) (rows.length + 1 - i) (G - i), .slice (some ⟨gv, 0, none⟩) 1 1]).run Tryz.prog Wa = .ok (goInt (Nat.min 1 (rows.length + 1 - i))) Wb := fun ty => by
      rw [hWb]; refine run_copy_k Wa 22 22 ty 68 w.heap.size (i * 4) (rows.length + 1 - i) (G - i) ⟨gv, 0, none⟩ 1 1 4 row Tryz.underlying22 (by rw [hi0]; simp [hz1]) (by rw [hrl]; simp only [Nat.min_def]; split <;> omega) ?_ ?_ ?_ h1
      · intro j v hj; rw [Addr.add_lit]; show Wa.cell? ⟨gv, 0 + j, none⟩ = some v; rw [hga.cell, Nat.zero_add]; simpa using hj
      · intro j hj; rw [ha.cell, Array.getElem?_eq_getElem (by rw [hRs]; omega)]; rfl
      · intro j hj; exact ha.frozen _
     have hcpB : ∀ ty, (Builtin.copy_ #[22, 22] ty #[.slice (some ⟨w.heap.size, (i + 1) * 4, none⟩) (rows.length - i) (G - (i + 1)), .slice (some ⟨g, i * 4, none⟩) (rows.length - i) (rows.length - i)]).run Tryz.prog Wb.drew = .ok (goInt (Nat.min (rows.length - i) (rows.length - i))) Wc := fun ty => by
      rw [hWc]; refine run_copy_k Wb.drew 22 22 ty 68 w.heap.size ((i + 1) * 4) (rows.length - i) (G - (i + 1)) ⟨g, i * 4, none⟩ (rows.length - i) (rows.length - i) 4 (rows.flatten.drop (i * 4)) Tryz.underlying22 (by rw [hi0]; simp [hz1]) (by rw [hdl]; simp only [Nat.min_def]; split <;> omega) ?_ ?_ ?_ (fun v hv => hc1 _ (List.mem_singleton.2 rfl) v (List.mem_of_mem_drop hv))
      · intro j v hj; rw [Addr.add_lit]; show Wb.drew.cell? ⟨g, i * 4 + j, none⟩ = some v; rw [hgB'.cell]; rw [List.getElem?_drop] at hj; obtain ⟨hjl, _⟩ := gI.1 hj; rw [hcs _ (by omega)]; exact hj
      · intro j hj; rw [f1.drew.cell, Array.getElem?_eq_getElem (by rw [hdl] at hj; rw [f2, hRs]; omega)]; rfl
      · intro j hj; exact f1.drew.frozen _
     have hfin : ∃ v', Ending.returned (.slice (some ⟨w.heap.size, 0, none⟩) (rows.length + 1) G) = .returned v' ∧ OwnP B Wc 68 4 v' (rows.take i ++ row :: rows.drop i) ∧ Keep (fun k => (Value.slice (some ⟨g, 0, none⟩) rows.length rows.length).ownBlock = some k) w Wc ∧ ∀ k, v'.ownBlock = some k → (Value.slice (some ⟨g, 0, none⟩) rows.length rows.length).ownBlock = some k ∨ w.heap.size ≤ k := by
      refine ⟨_, rfl, .inr ⟨w.heap.size, G, c3, ?_, hB, g1, ?_, hGm, by rw [g2, f2, hRs], ?_⟩, hkc.mono (fun k hk h => by omega), fun k hk => .inr (by simp [Value.ownBlock] at hk; omega)⟩
      · rw [lP, List.length_take, List.length_cons, List.length_drop, show min i rows.length + (rows.length - i + 1) = rows.length + 1 by omega]
      · rw [lP, List.length_take, List.length_cons, List.length_drop]; omega
      · refine hri.insert hu hrl hi (fun j hj => ?_) (fun t ht => ?_) (fun j hj1 hj2 => ?_)
        · rw [g3 j (.inl (by omega)), f3 j (.inl hj), hROW, Array.append_assoc, Array.getElem?_append_left (by simpa [htl] using hj), List.getElem?_toArray, List.getElem?_take, if_pos hj, hcs j (by omega)]
        · rw [g3 _ (.inl (by omega))]; exact f4 t (by omega)
        · rw [show j + 4 = (i + 1) * 4 + (j - i * 4) by omega, g4 (j - i * 4) (by omega), List.getElem?_drop, show i * 4 + (j - i * 4) = j by omega, ← hcs j hj2]
     have HFin := Lib.hid hfin; have hroomI : (rows.length : Int) < (rows.length : Int) + 1 := by omega
     have hw1 : IntKind.i64.wrap ((i : Int) + 1) = (i : Int) + 1 := by rw [IntKind.wrap_i64]; omega
     have hw2 : IntKind.i64.wrap ((rows.length : Int) + 1) = (rows.length : Int) + 1 := by rw [IntKind.wrap_i64]; omega
     have hGi : ¬ (G = i) := by omega
     have hGim : ¬ (G = i + 1) := by omega
     have hni : ¬ (rows.length = i) := by omega
     have hi3 : i ≤ rows.length + 1 := by omega
     have hi4 : i + 1 ≤ rows.length + 1 := by omega
     have hG64 : (G : Int) ≤ 9223372036854775807 := by unfold maxLen at hGm; omega
     clear hfin h hgb hri hgv hrow hu' hu hc1 hcl hsz hka hkb hkc hga hgB' f1 f2 f3 f4 g1 g2 g3 g4 ha hcs hold hkk hik hWa hWb hWc hROW hG hRs htl hdl
     go_enter Tryz.func177, Tryz.ntmps177
     go_wp2_with (first
      | (at_builtin; refine Lib.wpList_append_run _ rfl _ _ _ _ rfl _ _ rfl rfl _ _ (hrz _) ?_)
      | (at_builtin; refine wpList_copy_runI _ rfl _ _ 22 22 rfl _ _ rfl rfl (hcpA _) ?_))
     refine wp_region_eff [8] true (fun w' => True) (by kernel_rfl) (by kernel_rfl) ?_ ?_
     · trivial
     repeat
      refine wpL_look rfl rfl ?_; apply Exists.intro; refine ⟨?_, ?_⟩
      focus
       rintro w' -; go_simp
       first | done | rfl
      simp only [Act.put, sA, sZ, sS]
     refine wpL_do rfl rfl ?_; refine ⟨_, _, exec_copy rfl rfl rfl (hcpB _), .inr ⟨rfl, rfl⟩, ?_⟩; simp only [Act.put, sA, sZ, sS]; refine wpL_end ?_; go_wp2_with fail; go_ret; exact HFin.out
theorem ov158 (w : World) (gv g o la ca lb cb : Nat) (A C : Array Value) (ha : Blk w gv A 95) (hb : Blk w g C 95) (hne : gv ≠ g) (hs : C.size ≠ 0) :
 (callFunc 205 #[.slice (some ⟨gv, 0, none⟩) la ca, .slice (some ⟨g, o, none⟩) lb cb]).run Tryz.prog w = .ok (.value (.bool false)) w := by
 have hsa : w.shape? gv = some (95, A.size) := by unfold World.shape?; rw [show w.heap[gv]? = some (.cells A 95 (0, 0)) from ha]
 have hsb : w.shape? g = some (95, C.size) := by unfold World.shape?; rw [show w.heap[g]? = some (.cells C 95 (0, 0)) from hb]
 rw [run_callFunc_extern Tryz.func205 (by kernel_rfl) (by kernel_rfl) (by kernel_rfl) (e := Extern.SlicesOverlaps.overlaps #[23, 23] #[4]) (by kernel_rfl),
  Lib.run_overlaps_apart w 23 4 95 Tryz.underlying23 3 (fun w => by kernel_rfl) ⟨gv, 0, none⟩ ⟨g, o, none⟩ la ca lb cb hne 95 95 A.size C.size hsa hsb hs (ha.frozen 0) (ha.frozen _)]
 rfl
theorem insert123 (B : Nat) (v : Value) (rows : List (List Value)) (i gv : Nat) (row : List Value) (w : World) (h : OwnP B w 95 3 v rows) (hu : ∀ cs ∈ rows, cs.length = 3) (h1r : ∀ cs ∈ rows, ∀ u ∈ cs, u.oneCell' = true) (hi : i ≤ rows.length) (hn : rows.length ≤ 1000000)
 (hgv : Blk w gv row.toArray 95) (hrl : row.length = 3) (h1 : ∀ u ∈ row, u.oneCell' = true) (hne : v.ownBlock ≠ some gv) (hB : B ≤ w.heap.size) :
 Calls Tryz.prog 179 #[v, .int .i64 i, .slice (some ⟨gv, 0, none⟩) 1 1] w fun e w' => ∃ v', e = .returned v' ∧ OwnP B w' 95 3 v' (rows.take i ++ row :: rows.drop i) ∧ Keep (fun k => v.ownBlock = some k) w w' ∧ ∀ k, v'.ownBlock = some k → v.ownBlock = some k ∨ w.heap.size ≤ k := by
 obtain ⟨i0, hi0, hz0, hz1, hz2⟩ := info_parts info88
 have hrow : ∀ j u, row[j]? = some u → w.cell? ((⟨gv, 0, none⟩ : Addr).add j) = some u := fun j u hj => by
  rw [Addr.add_lit]; show w.cell? ⟨gv, 0 + j, none⟩ = _; rw [hgv.cell, Nat.zero_add]; simpa using hj
 have hu' : ∀ cs ∈ rows ++ [row], cs.length = 3 := fun cs hc => by
  rcases List.mem_append.1 hc with h | h
  · exact hu cs h
  · rw [List.mem_singleton.1 h]; exact hrl
 have igv := hgv.lt
 rcases h with ⟨rfl, rfl⟩ | ⟨g, cap, arr, rfl, hgB, hgb, hnc, hcm, hsz, hri⟩
 · obtain rfl : i = 0 := by simpa using hi
   have HR := Lib.hid hrow; clear hrow hu hu' h1r hi hn
   go_enter Tryz.func179, Tryz.ntmps179
   go_wp2_with (at_builtin; refine wpList_append_own_at _ rfl (.tmp 23) (.tmp 24) 23 rfl B 95 i0 (.agg #[.int .i64 0, .int .i64 0, .int .i64 0]) 3 24 Tryz.underlying23 hi0 hz0 hz1 hz2 rfl (by decide) (.slice none 0 0) 0 [] rfl (World.ownsRow_nil w B 95 3) ⟨gv, 0, none⟩ 1 1 row rfl hrl HR.out h1 (by unfold maxLen; omega) (by omega) hB ?_)
   intro v' w1 hown1 hgrow _ hloc; have hone1 := own_one hown1; have H1 := Lib.hid (And.intro hown1 (And.intro hgrow hloc)); clear hown1 hgrow hloc; go_wp2_with fail; go_ret; refine ⟨v', rfl, OwnP.of_own (rows := [row]) (by simpa using H1.out.1) (by decide) (fun cs h => by rw [List.mem_singleton.1 h]; exact hrl), (Keep.refl _ w).grown H1.out.2.1 (fun k hk => .inl hk), fun k hk => ?_⟩; rcases H1.out.2.2 with h | h
   · rw [h] at hk; exact .inl hk
   · rw [h] at hk; right; simp at hk; omega
 have h : OwnP B w 95 3 (.slice (some ⟨g, 0, none⟩) rows.length cap) rows := .inr ⟨g, cap, arr, rfl, hgB, hgb, hnc, hcm, hsz, hri⟩
 have hcm2 := hcm
 unfold maxLen at hcm2
 by_cases hin : i = rows.length
 · have hown := h.own (by decide) hu; have hfin : ∀ (v' : Value) (w1 : World), w1.ownsRow B 95 3 v' (rows.length + 1) (rows.flatten ++ row) → OwnP B w1 95 3 v' (rows.take i ++ row :: rows.drop i) := fun v' w1 ho => by
    rw [hin, List.take_length, List.drop_length]; exact OwnP.of_own (by rw [lP, List.length_singleton, List.flatten_append]; simpa using ho) (by decide) hu'
   have HF := Lib.hid hfin; have HO := Lib.hid hown; have HR := Lib.hid hrow; clear hfin hown hrow h hu' hu hgb hri hsz; have hiI : (i : Int) = rows.length := by omega
   subst hin; have key : ∀ (v' : Value) (w1 : World), w1.ownsRow B 95 3 v' (rows.length + 1) (rows.flatten ++ row) → w.grownBy w1 (some g) → (v'.ownBlock = some g ∨ v'.ownBlock = some w.heap.size) → ∃ v'', Ending.returned v' = .returned v'' ∧ OwnP B w1 95 3 v'' (rows.take rows.length ++ row :: rows.drop rows.length) ∧ Keep (fun k => (Value.slice (some ⟨g, 0, none⟩) rows.length cap).ownBlock = some k) w w1 ∧ ∀ k, v''.ownBlock = some k → (Value.slice (some ⟨g, 0, none⟩) rows.length cap).ownBlock = some k ∨ w.heap.size ≤ k := by
    intro v' w1 ho hg hl; refine ⟨v', rfl, HF.out v' w1 ho, (Keep.refl _ w).grown hg (fun k hk => .inl hk), fun k hk => ?_⟩; rcases hl with h | h
    · exact .inl (by rw [h] at hk; exact hk)
    · rw [h] at hk; right; simp at hk; omega
   have HK := Lib.hid key; clear key; by_cases hcc : cap = rows.length
   · subst hcc
     go_enter Tryz.func179, Tryz.ntmps179
     go_wp2_with (at_builtin; refine wpList_append_own_at _ rfl (.tmp 23) (.tmp 24) 23 rfl B 95 i0 (.agg #[.int .i64 0, .int .i64 0, .int .i64 0]) 3 24 Tryz.underlying23 hi0 hz0 hz1 hz2 rfl (by decide) _ _ rows.flatten rfl HO.out ⟨gv, 0, none⟩ 1 1 row rfl hrl HR.out h1 (by unfold maxLen; omega) (by omega) hB ?_)
     intro v' w1 hown1 hgrow _ hloc; have hone1 := own_one hown1; have H1 := Lib.hid (And.intro hown1 (And.intro hgrow hloc)); clear hown1 hgrow hloc; go_wp2_with fail; go_ret; exact HK.out _ _ H1.out.1 H1.out.2.1 H1.out.2.2
   · have hcc2 : ¬ rows.length = cap := fun e => hcc e.symm
     go_enter Tryz.func179, Tryz.ntmps179
     go_wp2_with (at_builtin; refine wpList_append_own_at _ rfl (.tmp 23) (.tmp 24) 23 rfl B 95 i0 (.agg #[.int .i64 0, .int .i64 0, .int .i64 0]) 3 24 Tryz.underlying23 hi0 hz0 hz1 hz2 rfl (by decide) _ _ rows.flatten rfl HO.out ⟨gv, 0, none⟩ 1 1 row rfl hrl HR.out h1 (by unfold maxLen; omega) (by omega) hB ?_)
     intro v' w1 hown1 hgrow _ hloc; have hone1 := own_one hown1; have H1 := Lib.hid (And.intro hown1 (And.intro hgrow hloc)); clear hown1 hgrow hloc; go_wp2_with fail; go_ret; exact HK.out _ _ H1.out.1 H1.out.2.1 H1.out.2.2
 · have hlt : i < rows.length := by omega
   have hcl := flat_len 3 rows hu; have hc1 : ∀ cs ∈ [rows.flatten], ∀ u ∈ cs, u.oneCell' = true := fun cs hc u hm => by
    rw [List.mem_singleton.1 hc] at hm; obtain ⟨cs', h1', h2'⟩ := List.mem_flatten.1 hm; exact h1r cs' h1' u h2'
   have hgn : gv ≠ g := fun e => hne (by rw [e]; rfl)
   have ig := hgb.lt; have hzi : ¬ ((i : Int) = (rows.length : Int)) := by omega
   have hci : ¬ (cap = i) := by omega
   have hiI : (i : Int) < rows.length := by omega
   by_cases hroom : rows.length + 1 ≤ cap
   · have hsz0 : arr.size ≠ 0 := by rw [hsz]; omega
     have hov : ∀ o lb cb, (callFunc 205 #[.slice (some ⟨gv, 0, none⟩) 1 1, .slice (some ⟨g, o, none⟩) lb cb]).run Tryz.prog w = .ok (.value (.bool false)) w := fun o lb cb => ov158 w gv g o 1 1 lb cb row.toArray arr hgv hgb hgn hsz0
     have hroomI : ¬ ((cap : Int) < (rows.length : Int) + 1) := by omega
     have hb3 : (i : Int) ≤ (rows.length : Int) + 1 := by omega
     have hb4 : i ≤ rows.length + 1 := by omega
     have hci2 : ¬ (cap = i + 1) := by omega
     have hw1 : IntKind.i64.wrap ((i : Int) + 1) = (i : Int) + 1 := by rw [IntKind.wrap_i64]; omega
     have hw2 : IntKind.i64.wrap ((rows.length : Int) + 1) = (rows.length : Int) + 1 := by rw [IntKind.wrap_i64]; omega
     obtain ⟨W1, hW1⟩ : ∃ W1, W1 = w.drew.setCells g ((i + 1) * 3) (rows.flatten.drop (i * 3)) := ⟨_, rfl⟩
     have hdl : (rows.flatten.drop (i * 3)).length = (rows.length - i) * 3 := by rw [List.length_drop, hcl, Nat.sub_mul]
     have hik : i * 3 + 3 ≤ rows.length * 3 := by omega
     have hcs := hri.flat hu; obtain ⟨c1, e1, e2, e3, e4⟩ := Blk.setCells_at g 95 (rows.flatten.drop (i * 3)) ((i + 1) * 3) w.drew arr hgb.drew (by rw [hdl, hsz]; omega); rw [← hW1] at e1; obtain ⟨c2, f1, f2, f3, f4⟩ := Blk.setCells_at g 95 row (i * 3) W1 c1 e1 (by rw [hrl, e2, hsz]; omega); have hkW : Keep (fun k => k = g) w.drew W1 := by rw [hW1]; exact Keep.setCells (S := fun k => k = g) rfl _ _ (Keep.refl _ _)
     have hgW : Blk W1 gv row.toArray 95 := hkW.blk hgv.drew hgn; have hcp1 : ∀ ty, (Builtin.copy_ #[23, 23] ty #[.slice (some ⟨g, (i + 1) * 3, none⟩) (rows.length - i) (cap - (i + 1)), .slice (some ⟨g, i * 3, none⟩) (rows.length + 1 - i) (cap - i)]).run Tryz.prog w.drew = .ok (goInt (Nat.min (rows.length + 1 - i) (rows.length - i))) W1 := fun ty => by
      rw [hW1]; refine run_copy_k w.drew 23 23 ty 95 g ((i + 1) * 3) (rows.length - i) (cap - (i + 1)) ⟨g, i * 3, none⟩ (rows.length + 1 - i) (cap - i) 3 (rows.flatten.drop (i * 3)) Tryz.underlying23 (by rw [hi0]; simp [hz1]) (by rw [hdl]; simp only [Nat.min_def]; split <;> omega) ?_ ?_ ?_ (fun v hv => hc1 _ (List.mem_singleton.2 rfl) v (List.mem_of_mem_drop hv))
      · intro j v hj; rw [Addr.add_lit]; show w.drew.cell? ⟨g, i * 3 + j, none⟩ = some v; rw [hgb.drew.cell]; rw [List.getElem?_drop] at hj; obtain ⟨hjl, _⟩ := gI.1 hj; rw [hcs _ (by omega)]; exact hj
      · intro j hj; rw [hgb.drew.cell, Array.getElem?_eq_getElem (by rw [hdl] at hj; rw [hsz]; omega)]; rfl
      · intro j hj; exact hgb.drew.frozen _
     have hcp2 : ∀ ty, (Builtin.copy_ #[23, 23] ty #[.slice (some ⟨g, i * 3, none⟩) (rows.length + 1 - i) (cap - i), .slice (some ⟨gv, 0, none⟩) 1 1]).run Tryz.prog W1 = .ok (goInt (Nat.min 1 (rows.length + 1 - i))) (W1.setCells g (i * 3) row) := fun ty => by
      refine run_copy_k W1 23 23 ty 95 g (i * 3) (rows.length + 1 - i) (cap - i) ⟨gv, 0, none⟩ 1 1 3 row Tryz.underlying23 (by rw [hi0]; simp [hz1]) (by rw [hrl]; simp only [Nat.min_def]; split <;> omega) ?_ ?_ ?_ h1
      · intro j v hj; rw [Addr.add_lit]; show W1.cell? ⟨gv, 0 + j, none⟩ = some v; rw [hgW.cell, Nat.zero_add]; simpa using hj
      · intro j hj; rw [e1.cell, Array.getElem?_eq_getElem (by rw [e2, hsz]; omega)]; rfl
      · intro j hj; exact e1.frozen _
     have hfin : ∃ v', Ending.returned (.slice (some ⟨g, 0, none⟩) (rows.length + 1) cap) = .returned v' ∧ OwnP B (W1.setCells g (i * 3) row) 95 3 v' (rows.take i ++ row :: rows.drop i) ∧ Keep (fun k => (Value.slice (some ⟨g, 0, none⟩) rows.length cap).ownBlock = some k) w (W1.setCells g (i * 3) row) ∧ ∀ k, v'.ownBlock = some k → (Value.slice (some ⟨g, 0, none⟩) rows.length cap).ownBlock = some k ∨ w.heap.size ≤ k := by
      refine ⟨_, rfl, .inr ⟨g, cap, c2, ?_, hgB, f1, ?_, hcm, by rw [f2, e2, hsz], ?_⟩, ?_, fun k hk => .inl hk⟩
      · rw [lP, List.length_take, List.length_cons, List.length_drop, show min i rows.length + (rows.length - i + 1) = rows.length + 1 by omega]
      · rw [lP, List.length_take, List.length_cons, List.length_drop]; omega
      · refine hri.insert hu hrl hi (fun j hj => ?_) (fun t ht => ?_) (fun j hj1 hj2 => ?_)
        · rw [f3 j (.inl hj), e3 j (.inl (by omega))]
        · exact f4 t (by omega)
        · rw [f3 (j + 3) (.inr (by omega)), show j + 3 = (i + 1) * 3 + (j - i * 3) by omega, e4 (j - i * 3) (by omega), List.getElem?_drop, show i * 3 + (j - i * 3) = j by omega, ← hcs j hj2]
      · have hk0 : Keep (fun k => k = g) w.drew (W1.setCells g (i * 3) row) := Keep.setCells (S := fun k => k = g) rfl _ _ hkW; have hk1 : Keep (fun k => k = g) w (W1.setCells g (i * 3) row) := (show Keep (fun k => k = g) w w.drew from (Keep.refl _ w).drew).trans hk0 (fun _ _ h => h); exact hk1.mono (fun k _ h => by rw [h]; rfl)
     have HFin := Lib.hid hfin; clear hfin e1 e2 e3 e4 f1 f2 f3 f4 hcs hkW hgW hW1; clear h hgb hri hgv hrow hu' hu hc1 hcl hsz
     go_enter Tryz.func179, Tryz.ntmps179
     go_wp2_with (simp only [hov])
     refine wp_region_eff [8] true (fun w' => True) (by kernel_rfl) (by kernel_rfl) ?_ ?_
     · trivial
     repeat
      refine wpL_look rfl rfl ?_; apply Exists.intro; refine ⟨?_, ?_⟩
      focus
       rintro w' -; go_simp
       first | done | rfl
      simp only [Act.put, sA, sZ, sS]
     refine wpL_do rfl rfl ?_; refine ⟨_, _, exec_copy rfl rfl rfl (hcp1 _), .inr ⟨rfl, rfl⟩, ?_⟩; simp only [Act.put, sA, sZ, sS]; refine wpL_end ?_; go_wp2_with (at_builtin; refine wpList_copy_runI _ rfl _ _ 23 23 rfl _ _ rfl rfl (hcp2 _) ?_)
     go_ret; exact HFin.out
   · obtain rfl : cap = rows.length := by omega
     have hcs := hri.flat hu; obtain ⟨G, hG⟩ : ∃ G, G = grownCap w (rows.length + 1) rows.length 95 := ⟨_, rfl⟩
     obtain ⟨ROW, hROW⟩ : ∃ ROW : Array Value, ROW = (rows.flatten.take (i * 3)).toArray ++ Builtin.zeroCells (.agg #[.int .i64 0, .int .i64 0, .int .i64 0] : Value).cells (rows.length + 1 - i) ++ Builtin.zeroCells (.agg #[.int .i64 0, .int .i64 0, .int .i64 0] : Value).cells (G - (rows.length + 1)) := ⟨_, rfl⟩
     have hGn : rows.length + 1 ≤ G := by rw [hG]; exact grownCap_ge w _ _ _
     have hGm : G ≤ maxLen := by rw [hG]; exact grownCap_le_maxLen w (rows.length + 1) rows.length 95 (by unfold maxLen; omega)
     have htl : (rows.flatten.take (i * 3)).length = i * 3 := by rw [List.length_take, hcl]; omega
     have hRs : ROW.size = G * 3 := by
      rw [hROW]; simp only [Array.size_append, List.size_toArray, htl, size_zeroCells]; show i * 3 + (rows.length + 1 - i) * 3 + (G - (rows.length + 1)) * 3 = G * 3; omega
     obtain ⟨Wa, hWa⟩ : ∃ Wa, Wa = w.drew.alloc (.cells ROW 95) := ⟨_, rfl⟩
     have ha : Blk Wa w.heap.size ROW 95 := by rw [hWa]; exact Blk.new w.drew _ _
     have hkk : (rows.length : Int) + 1 - (i : Int) = ((rows.length + 1 - i : Nat) : Int) := by omega
     have hik : i + (rows.length + 1 - i) = rows.length + 1 := by omega
     have hold : (Builtin.firstCells i0.size i (.slice (some ⟨g, 0, none⟩) i rows.length)).run Tryz.prog w.drew = .ok (rows.flatten.take (i * 3)).toArray w.drew := by
      rw [hz1]; refine run_firstCells_some w.drew 3 i ⟨g, 0, none⟩ i rows.length (rows.flatten.take (i * 3)) htl (fun j u hj => ?_); rw [Addr.add_lit]; show w.drew.cell? ⟨g, 0 + j, none⟩ = some u; rw [hgb.drew.cell, Nat.zero_add]; rw [List.getElem?_take] at hj
      split at hj
      · rw [hcs j (by omega)]; exact hj
      · cases hj
     have hrz : ∀ ty, (Builtin.append_ #[23, 3] ty #[.slice (some ⟨g, 0, none⟩) i rows.length, .int .i64 ((rows.length : Int) + 1 - (i : Int))]).run Tryz.prog w = .ok (.slice (some ⟨w.heap.size, 0, none⟩) (rows.length + 1) G) Wa := fun ty => by
      have h := Lib.run_append_grow_zeros w 23 3 ty 95 i0 _ .i64 .i64 Tryz.underlying23 Tryz.underlying3 hi0 hz0 (some ⟨g, 0, none⟩) i rows.length (rows.flatten.take (i * 3)) hold (rows.length + 1 - i) (by omega) (by rw [hz1]; decide) (by omega) (by omega) (by rw [hz2]; omega) (by rw [hz2, hik]; exact growslice_fits (by omega) (by omega)); rw [hik] at h; rw [hkk, hWa, hROW, hG]; exact h
     obtain ⟨c2, f1, f2, f3, f4⟩ := Blk.setCells_at w.heap.size 95 row (i * 3) Wa ROW ha (by rw [hrl, hRs]; omega); obtain ⟨Wb, hWb⟩ : ∃ Wb, Wb = Wa.setCells w.heap.size (i * 3) row := ⟨_, rfl⟩
     rw [← hWb] at f1; have hdl : (rows.flatten.drop (i * 3)).length = (rows.length - i) * 3 := by rw [List.length_drop, hcl, Nat.sub_mul]
     obtain ⟨c3, g1, g2, g3, g4⟩ := Blk.setCells_at w.heap.size 95 (rows.flatten.drop (i * 3)) ((i + 1) * 3) Wb.drew c2 f1.drew (by rw [hdl, f2, hRs]; omega); obtain ⟨Wc, hWc⟩ : ∃ Wc, Wc = Wb.drew.setCells w.heap.size ((i + 1) * 3) (rows.flatten.drop (i * 3)) := ⟨_, rfl⟩
     rw [← hWc] at g1; have hka : Keep (fun k => k = w.heap.size) w Wa := by rw [hWa]; exact (Keep.refl _ w).drew.alloc _
     have hkb : Keep (fun k => k = w.heap.size) w Wb := by rw [hWb]; exact Keep.setCells (S := fun k => k = w.heap.size) rfl _ _ hka
     have hkc : Keep (fun k => k = w.heap.size) w Wc := by rw [hWc]; exact Keep.setCells (S := fun k => k = w.heap.size) rfl _ _ hkb.drew
     have hga : Blk Wa gv row.toArray 95 := hka.blk hgv (by have := igv.lt; omega); have hgB' : Blk Wb.drew g arr 95 := (hkb.blk hgb (by have := ig.lt; omega)).drew; have hcpA : ∀ ty, (Builtin.copy_ #[23, 23] ty #[.slice (some ⟨w.heap.size, i * 3, none⟩) (rows.length + 1 - i) (G - i), .slice (some ⟨gv, 0, none⟩) 1 1]).run Tryz.prog Wa = .ok (goInt (Nat.min 1 (rows.length + 1 - i))) Wb := fun ty => by
      rw [hWb]; refine run_copy_k Wa 23 23 ty 95 w.heap.size (i * 3) (rows.length + 1 - i) (G - i) ⟨gv, 0, none⟩ 1 1 3 row Tryz.underlying23 (by rw [hi0]; simp [hz1]) (by rw [hrl]; simp only [Nat.min_def]; split <;> omega) ?_ ?_ ?_ h1
      · intro j v hj; rw [Addr.add_lit]; show Wa.cell? ⟨gv, 0 + j, none⟩ = some v; rw [hga.cell, Nat.zero_add]; simpa using hj
      · intro j hj; rw [ha.cell, Array.getElem?_eq_getElem (by rw [hRs]; omega)]; rfl
      · intro j hj; exact ha.frozen _
     have hcpB : ∀ ty, (Builtin.copy_ #[23, 23] ty #[.slice (some ⟨w.heap.size, (i + 1) * 3, none⟩) (rows.length - i) (G - (i + 1)), .slice (some ⟨g, i * 3, none⟩) (rows.length - i) (rows.length - i)]).run Tryz.prog Wb.drew = .ok (goInt (Nat.min (rows.length - i) (rows.length - i))) Wc := fun ty => by
      rw [hWc]; refine run_copy_k Wb.drew 23 23 ty 95 w.heap.size ((i + 1) * 3) (rows.length - i) (G - (i + 1)) ⟨g, i * 3, none⟩ (rows.length - i) (rows.length - i) 3 (rows.flatten.drop (i * 3)) Tryz.underlying23 (by rw [hi0]; simp [hz1]) (by rw [hdl]; simp only [Nat.min_def]; split <;> omega) ?_ ?_ ?_ (fun v hv => hc1 _ (List.mem_singleton.2 rfl) v (List.mem_of_mem_drop hv))
      · intro j v hj; rw [Addr.add_lit]; show Wb.drew.cell? ⟨g, i * 3 + j, none⟩ = some v; rw [hgB'.cell]; rw [List.getElem?_drop] at hj; obtain ⟨hjl, _⟩ := gI.1 hj; rw [hcs _ (by omega)]; exact hj
      · intro j hj; rw [f1.drew.cell, Array.getElem?_eq_getElem (by rw [hdl] at hj; rw [f2, hRs]; omega)]; rfl
      · intro j hj; exact f1.drew.frozen _
     have hfin : ∃ v', Ending.returned (.slice (some ⟨w.heap.size, 0, none⟩) (rows.length + 1) G) = .returned v' ∧ OwnP B Wc 95 3 v' (rows.take i ++ row :: rows.drop i) ∧ Keep (fun k => (Value.slice (some ⟨g, 0, none⟩) rows.length rows.length).ownBlock = some k) w Wc ∧ ∀ k, v'.ownBlock = some k → (Value.slice (some ⟨g, 0, none⟩) rows.length rows.length).ownBlock = some k ∨ w.heap.size ≤ k := by
      refine ⟨_, rfl, .inr ⟨w.heap.size, G, c3, ?_, hB, g1, ?_, hGm, by rw [g2, f2, hRs], ?_⟩, hkc.mono (fun k hk h => by omega), fun k hk => .inr (by simp [Value.ownBlock] at hk; omega)⟩
      · rw [lP, List.length_take, List.length_cons, List.length_drop, show min i rows.length + (rows.length - i + 1) = rows.length + 1 by omega]
      · rw [lP, List.length_take, List.length_cons, List.length_drop]; omega
      · refine hri.insert hu hrl hi (fun j hj => ?_) (fun t ht => ?_) (fun j hj1 hj2 => ?_)
        · rw [g3 j (.inl (by omega)), f3 j (.inl hj), hROW, Array.append_assoc, Array.getElem?_append_left (by simpa [htl] using hj), List.getElem?_toArray, List.getElem?_take, if_pos hj, hcs j (by omega)]
        · rw [g3 _ (.inl (by omega))]; exact f4 t (by omega)
        · rw [show j + 3 = (i + 1) * 3 + (j - i * 3) by omega, g4 (j - i * 3) (by omega), List.getElem?_drop, show i * 3 + (j - i * 3) = j by omega, ← hcs j hj2]
     have HFin := Lib.hid hfin; have hroomI : (rows.length : Int) < (rows.length : Int) + 1 := by omega
     have hw1 : IntKind.i64.wrap ((i : Int) + 1) = (i : Int) + 1 := by rw [IntKind.wrap_i64]; omega
     have hw2 : IntKind.i64.wrap ((rows.length : Int) + 1) = (rows.length : Int) + 1 := by rw [IntKind.wrap_i64]; omega
     have hGi : ¬ (G = i) := by omega
     have hGim : ¬ (G = i + 1) := by omega
     have hni : ¬ (rows.length = i) := by omega
     have hi3 : i ≤ rows.length + 1 := by omega
     have hi4 : i + 1 ≤ rows.length + 1 := by omega
     have hG64 : (G : Int) ≤ 9223372036854775807 := by unfold maxLen at hGm; omega
     clear hfin h hgb hri hgv hrow hu' hu hc1 hcl hsz hka hkb hkc hga hgB' f1 f2 f3 f4 g1 g2 g3 g4 ha hcs hold hkk hik hWa hWb hWc hROW hG hRs htl hdl
     go_enter Tryz.func179, Tryz.ntmps179
     go_wp2_with (first
      | (at_builtin; refine Lib.wpList_append_run _ rfl _ _ _ _ rfl _ _ rfl rfl _ _ (hrz _) ?_)
      | (at_builtin; refine wpList_copy_runI _ rfl _ _ 23 23 rfl _ _ rfl rfl (hcpA _) ?_))
     refine wp_region_eff [8] true (fun w' => True) (by kernel_rfl) (by kernel_rfl) ?_ ?_
     · trivial
     repeat
      refine wpL_look rfl rfl ?_; apply Exists.intro; refine ⟨?_, ?_⟩
      focus
       rintro w' -; go_simp
       first | done | rfl
      simp only [Act.put, sA, sZ, sS]
     refine wpL_do rfl rfl ?_; refine ⟨_, _, exec_copy rfl rfl rfl (hcpB _), .inr ⟨rfl, rfl⟩, ?_⟩; simp only [Act.put, sA, sZ, sS]; refine wpL_end ?_; go_wp2_with fail; go_ret; exact HFin.out
end Go.Proofs.YtmkapobnfigedaaGreatDoor
