/- Part of the proof of a law of chapter 15. Conditions: none. -/
import Derived.Test.YtmkapobnfigedaaGreatDoorDp46
set_option linter.unusedVariables false
set_option linter.unusedSimpArgs false
set_option maxRecDepth 100000
set_option maxHeartbeats 8000000
namespace Go.Proofs.YtmkapobnfigedaaGreatDoor
open Go.RowKit
theorem row_blk {w : World} {b k n : Nat} {arr : Array Value} {t : TypeId} {rows : List (List Value)} (hb : Blk w b arr t) (hn : rows.length = n) (hm : n ≤ maxLen) (hr : RowsIn arr k rows) : RowAt w k (.slice (some ⟨b, 0, none⟩) n n) rows := by
 subst hn
 exact ⟨_, _, rfl, hm, fun _ => ⟨b, 0, rfl, hb.lt.lt, fun q cs hq t u hu => by rw [hb.cell, Nat.zero_add]; exact hr q cs hq t u hu⟩⟩
theorem rows1 {k : Nat} {r : List Value} (hk : r.length = k) : RowsIn r.toArray k [r] := by
 intro q cs hq t u hu
 rcases q with _ | q
 · cases hq; rw [Nat.zero_mul, Nat.zero_add]; simpa using hu
 · simp at hq
theorem rows2 {k : Nat} {r s : List Value} (hr : r.length = k) (hs : s.length = k) : RowsIn (r ++ s).toArray k [r, s] := by
 intro q cs hq t u hu
 rcases q with _ | _ | q
 · cases hq; rw [Nat.zero_mul, Nat.zero_add]; obtain ⟨h, _⟩ := gI.1 hu; rw [List.getElem?_toArray, List.getElem?_append_left h]; exact hu
 · cases hq; rw [List.getElem?_toArray, Nat.one_mul, List.getElem?_append_right (by omega), hr, Nat.add_sub_cancel_left]; exact hu
 · simp at hq
theorem awake20 (w : World) : Calls Tryz.prog 20 #[] w fun e w' => e = .returned (.bool true) ∧ Below w.heap.size w w' := by
 have hnew := new11 2 (by omega) (by omega) w
 go_enter Tryz.func20, Tryz.ntmps20
 go_upto_region 3 with (go_at_call 51; refine hnew.mono ?_; rintro e w1 ⟨iv, ov, mv, rfl, hb1, hs1⟩; obtain ⟨a1, n1, x1, a2, n2, x2, a3, n3, x3, rfl, rfl, rfl⟩ := hs1.slices)
 refine abs_world (F := fun wA => Below w.heap.size w wA ∧ Blk wA w1.heap.size #[.slice a1 n1 x1, .slice a2 n2 x2, .slice a3 n3 x3] 26 ∧ Blk wA (w1.heap.size + 1) #[.int .i64 0, .int .i64 0, .int .i64 0, .int .i64 0, .int .i64 0, .string ⟨#[47, 97]⟩, .string ⟨#[]⟩, .string ⟨#[]⟩] 28 ∧ StRead wA (.slice a1 n1 x1) (.slice a2 n2 x2) (.slice a3 n3 x3) (newSt 2)) ⟨hb1.trans ((bel w1 _).mono hb1.size), (Blk.new _ _ _).alloc _, Blk.new_i _ _ _ _, hs1.below (bel w1 _) (Nat.le_refl _)⟩ ?_
 generalize w1.heap.size = b1
 clear hb1 hs1 hnew
 rintro wA ⟨hbA, hkA, hcA, hsA⟩
 have k0 : wA.cell? ⟨b1, 0, none⟩ = some (.slice a1 n1 x1) := hkA.cell 0
 have k1 : wA.cell? ⟨b1, 1, none⟩ = some (.slice a2 n2 x2) := hkA.cell 1
 have k2 : wA.cell? ⟨b1, 2, none⟩ = some (.slice a3 n3 x3) := hkA.cell 2
 have ik := hkA.lt
 have ic := hcA.lt
 have c0 : wA.cell? ⟨b1 + 1, 0, none⟩ = some (.int .i64 0) := hcA.cell 0
 have c1 : wA.cell? ⟨b1 + 1, 1, none⟩ = some (.int .i64 0) := hcA.cell 1
 have c2 : wA.cell? ⟨b1 + 1, 2, none⟩ = some (.int .i64 0) := hcA.cell 2
 have c3 : wA.cell? ⟨b1 + 1, 3, none⟩ = some (.int .i64 0) := hcA.cell 3
 have c4 : wA.cell? ⟨b1 + 1, 4, none⟩ = some (.int .i64 0) := hcA.cell 4
 have c5 : wA.cell? ⟨b1 + 1, 5, none⟩ = some (.string ⟨#[47, 97]⟩) := hcA.cell 5
 have c6 : wA.cell? ⟨b1 + 1, 6, none⟩ = some (.string ⟨#[]⟩) := hcA.cell 6
 have c7 : wA.cell? ⟨b1 + 1, 7, none⟩ = some (.string ⟨#[]⟩) := hcA.cell 7
 have hkey : Calls Tryz.prog 12 #[.agg #[.slice a1 n1 x1, .slice a2 n2 x2, .slice a3 n3 x3], .agg #[.int .i64 0, .int .i64 0, .int .i64 0, .int .i64 0, .int .i64 0, .string ⟨#[47, 97]⟩, .string ⟨#[]⟩, .string ⟨#[]⟩]] wA fun e w' => Below wA.heap.size wA w' ∧ ∃ kv, e = .returned kv ∧ OwnP wA.heap.size w' 61 2 kv (ksA.map PKey.cells) := by
  have := keys12 _ _ _ (newSt 2) cA wA hsA awk_wf (by decide); unfold keysF at this; rw [awk_may, if_pos rfl, keysM_eq] at this; exact this
 have HA := Lib.hid (And.intro hbA (And.intro hkA (And.intro hcA hsA)))
 clear hbA hkA hcA hsA
 go_upto_region 4 with (go_at_call 12; refine hkey.mono ?_; rintro e w2 ⟨hb2, kv, rfl, hk2⟩)
 rcases hk2 with ⟨-, h2⟩ | ⟨gk, cap, arr, rfl, hgk, hkb, hkn, hkm, hks, hkr⟩
 · exfalso; have := congrArg List.length h2; rw [lM, awk_len] at this; cases this
 rw [lM, awk_len]
 have hbw2 : Below w.heap.size w w2 := HA.out.1.trans (hb2.mono HA.out.1.size)
 have hB2 : Blk w2 b1 #[.slice a1 n1 x1, .slice a2 n2 x2, .slice a3 n3 x3] 26 ∧ Blk w2 (b1 + 1) #[.int .i64 0, .int .i64 0, .int .i64 0, .int .i64 0, .int .i64 0, .string ⟨#[47, 97]⟩, .string ⟨#[]⟩, .string ⟨#[]⟩] 28 := ⟨HA.out.2.1.below hb2 ik.lt, HA.out.2.2.1.below hb2 ic.lt⟩
 have hs2 := HA.out.2.2.2.below hb2 (Nat.le_refl _)
 have hkrow : RowAt w2 2 (.slice (some ⟨gk, 0, none⟩) 4 cap) (ksA.map PKey.cells) := by
  have := OwnP.row (B := 0) (e := 61) (.inr ⟨gk, cap, arr, rfl, Nat.zero_le _, hkb, hkn, hkm, hks, hkr⟩); rw [lM, awk_len] at this; exact this
 have q00 : w2.cell? ⟨gk, 0, none⟩ = some (.int .i64 (-1)) := (hkb.cell 0).trans (hkr 0 _ (by rw [gM, awk_0]; rfl) 0 _ rfl)
 have q01 : w2.cell? ⟨gk, 1, none⟩ = some (.string ⟨#[]⟩) := (hkb.cell 1).trans (hkr 0 _ (by rw [gM, awk_0]; rfl) 1 _ rfl)
 have q30 : w2.cell? ⟨gk, 6, none⟩ = some (.int .i64 2) := (hkb.cell 6).trans (hkr 3 _ (by rw [gM, awk_3]; rfl) 0 _ rfl)
 have q31 : w2.cell? ⟨gk, 7, none⟩ = some (.string ⟨#[]⟩) := (hkb.cell 7).trans (hkr 3 _ (by rw [gM, awk_3]; rfl) 1 _ rfl)
 have igk := hkb.lt
 have H2 := Lib.hid (And.intro hbw2 (And.intro hB2 (And.intro hs2 (And.intro hkrow (And.intro q00 (And.intro q01 (And.intro q30 q31)))))))
 clear k0 k1 k2 ik ic c0 c1 c2 c3 c4 c5 c6 c7 hkey hkb hkr hkn hkm hks hb2 HA q00 q01 q30 q31 hbw2 hs2 hkrow
 have dk0 : w2.cell? ⟨b1, 0, none⟩ = some (.slice a1 n1 x1) := (hB2.1).cell 0
 have dk1 : w2.cell? ⟨b1, 1, none⟩ = some (.slice a2 n2 x2) := (hB2.1).cell 1
 have dk2 : w2.cell? ⟨b1, 2, none⟩ = some (.slice a3 n3 x3) := (hB2.1).cell 2
 have dik := (hB2.1).lt
 have dic := (hB2.2).lt
 have dc0 : w2.cell? ⟨b1 + 1, 0, none⟩ = some (.int .i64 0) := (hB2.2).cell 0
 have dc1 : w2.cell? ⟨b1 + 1, 1, none⟩ = some (.int .i64 0) := (hB2.2).cell 1
 have dc2 : w2.cell? ⟨b1 + 1, 2, none⟩ = some (.int .i64 0) := (hB2.2).cell 2
 have dc3 : w2.cell? ⟨b1 + 1, 3, none⟩ = some (.int .i64 0) := (hB2.2).cell 3
 have dc4 : w2.cell? ⟨b1 + 1, 4, none⟩ = some (.int .i64 0) := (hB2.2).cell 4
 have dc5 : w2.cell? ⟨b1 + 1, 5, none⟩ = some (.string ⟨#[47, 97]⟩) := (hB2.2).cell 5
 have dc6 : w2.cell? ⟨b1 + 1, 6, none⟩ = some (.string ⟨#[]⟩) := (hB2.2).cell 6
 have dc7 : w2.cell? ⟨b1 + 1, 7, none⟩ = some (.string ⟨#[]⟩) := (hB2.2).cell 7
 clear hB2
 have hclo : ∀ ww, Below ((w2.alloc (.cells #[.int .i64 0, .int .i64 0, .int .i64 0, .int .i64 0, .int .i64 0, .string ⟨#[47, 97]⟩, .string ⟨#[]⟩, .string ⟨#[]⟩, .int .i64 2, .int .i64 1, .int .i64 0, .int .i64 0, .int .i64 0, .string ⟨#[47, 97]⟩, .string ⟨#[]⟩, .string ⟨#[]⟩] 28)).alloc (.cells #[.int .i64 1] 3)).heap.size ((w2.alloc (.cells #[.int .i64 0, .int .i64 0, .int .i64 0, .int .i64 0, .int .i64 0, .string ⟨#[47, 97]⟩, .string ⟨#[]⟩, .string ⟨#[]⟩, .int .i64 2, .int .i64 1, .int .i64 0, .int .i64 0, .int .i64 0, .string ⟨#[47, 97]⟩, .string ⟨#[]⟩, .string ⟨#[]⟩] 28)).alloc (.cells #[.int .i64 1] 3)) ww → Calls Tryz.prog 23 #[.agg #[.slice a1 n1 x1, .slice a2 n2 x2, .slice a3 n3 x3], .slice (some ⟨w2.heap.size, 0, none⟩) 2 2, .slice (some ⟨w2.heap.size + 1, 0, none⟩) 1 1] ww fun e w' => Below ww.heap.size ww w' ∧ ∃ g, e = .returned (.slice (some ⟨g, 0, none⟩) 2 2) ∧ ww.heap.size ≤ g ∧ Blk w' g (boolRow [true, true]) 4 := fun ww hb => by
  have hb0 := (bel w2 ((w2.alloc (.cells #[.int .i64 0, .int .i64 0, .int .i64 0, .int .i64 0, .int .i64 0, .string ⟨#[47, 97]⟩, .string ⟨#[]⟩, .string ⟨#[]⟩, .int .i64 2, .int .i64 1, .int .i64 0, .int .i64 0, .int .i64 0, .string ⟨#[47, 97]⟩, .string ⟨#[]⟩, .string ⟨#[]⟩] 28)).alloc (.cells #[.int .i64 1] 3))).trans (hb.mono (bel w2 _).size); have h1 : RowAt ww 8 (.slice (some ⟨w2.heap.size, 0, none⟩) 2 2) ([cA, cB].map PCall.cells) := row_blk (t := 28) ((((Blk.new w2 #[.int .i64 0, .int .i64 0, .int .i64 0, .int .i64 0, .int .i64 0, .string ⟨#[47, 97]⟩, .string ⟨#[]⟩, .string ⟨#[]⟩, .int .i64 2, .int .i64 1, .int .i64 0, .int .i64 0, .int .i64 0, .string ⟨#[47, 97]⟩, .string ⟨#[]⟩, .string ⟨#[]⟩] 28).alloc _).below hb (by simp; omega))) rfl (by decide) (rows2 (r := cA.cells) (s := cB.cells) rfl rfl); have h2 : RowAt ww 1 (.slice (some ⟨w2.heap.size + 1, 0, none⟩) 1 1) (([1] : List Int).map intCells) := row_blk (t := 3) ((Blk.new_i (w2.alloc (.cells #[.int .i64 0, .int .i64 0, .int .i64 0, .int .i64 0, .int .i64 0, .string ⟨#[47, 97]⟩, .string ⟨#[]⟩, .string ⟨#[]⟩, .int .i64 2, .int .i64 1, .int .i64 0, .int .i64 0, .int .i64 0, .string ⟨#[47, 97]⟩, .string ⟨#[]⟩, .string ⟨#[]⟩] 28)) #[.int .i64 1] 3 _).below hb (by simp)) rfl (by decide) (rows1 rfl); have := closure23 _ _ _ (newSt 2) [cA, cB] [1] _ _ ww (H2.out.2.2.1.below hb0 (Nat.le_refl _)) awk_wf h1 (by decide) (by decide) h2 (by decide) (by decide); rw [closureM_eq, awk_cl] at this; exact this
 go_upto_region 5 with (go_at_call 23; refine (hclo _ (bel _ _)).mono ?_; rintro e w5 ⟨hb5, g5, rfl, hg5, hi5⟩)
 have hb52 : Below w2.heap.size w2 w5 := (bel w2 ((w2.alloc (.cells #[.int .i64 0, .int .i64 0, .int .i64 0, .int .i64 0, .int .i64 0, .string ⟨#[47, 97]⟩, .string ⟨#[]⟩, .string ⟨#[]⟩, .int .i64 2, .int .i64 1, .int .i64 0, .int .i64 0, .int .i64 0, .string ⟨#[47, 97]⟩, .string ⟨#[]⟩, .string ⟨#[]⟩] 28)).alloc (.cells #[.int .i64 1] 3))).trans (hb5.mono (bel w2 ((w2.alloc (.cells #[.int .i64 0, .int .i64 0, .int .i64 0, .int .i64 0, .int .i64 0, .string ⟨#[47, 97]⟩, .string ⟨#[]⟩, .string ⟨#[]⟩, .int .i64 2, .int .i64 1, .int .i64 0, .int .i64 0, .int .i64 0, .string ⟨#[47, 97]⟩, .string ⟨#[]⟩, .string ⟨#[]⟩] 28)).alloc (.cells #[.int .i64 1] 3))).size)
 have hbw5 : Below w.heap.size w w5 := H2.out.1.trans (hb52.mono H2.out.1.size)
 have hB5 : Blk w5 b1 #[.slice a1 n1 x1, .slice a2 n2 x2, .slice a3 n3 x3] 26 ∧ Blk w5 (b1 + 1) #[.int .i64 0, .int .i64 0, .int .i64 0, .int .i64 0, .int .i64 0, .string ⟨#[47, 97]⟩, .string ⟨#[]⟩, .string ⟨#[]⟩] 28 := ⟨H2.out.2.1.1.below hb52 dik.lt, H2.out.2.1.2.below hb52 dic.lt⟩
 have hs5 := H2.out.2.2.1.below hb52 (Nat.le_refl _)
 have hkrow := H2.out.2.2.2.1.below hb52 (Nat.le_refl _)
 have q00 : w5.cell? ⟨gk, 0, none⟩ = some (.int .i64 (-1)) := (hb52.cell (p := ⟨gk, 0, none⟩) igk.lt).trans H2.out.2.2.2.2.1
 have q01 : w5.cell? ⟨gk, 1, none⟩ = some (.string ⟨#[]⟩) := (hb52.cell (p := ⟨gk, 1, none⟩) igk.lt).trans H2.out.2.2.2.2.2.1
 have q30 : w5.cell? ⟨gk, 6, none⟩ = some (.int .i64 2) := (hb52.cell (p := ⟨gk, 6, none⟩) igk.lt).trans H2.out.2.2.2.2.2.2.1
 have q31 : w5.cell? ⟨gk, 7, none⟩ = some (.string ⟨#[]⟩) := (hb52.cell (p := ⟨gk, 7, none⟩) igk.lt).trans H2.out.2.2.2.2.2.2.2
 have igk5 : BlockLt gk w5 := ⟨by have := igk.lt; have := hb52.size; omega⟩
 have ig5 := hi5.lt
 clear dk0 dk1 dk2 dik dic dc0 dc1 dc2 dc3 dc4 dc5 dc6 dc7 hclo igk hb5 H2 hb52
 have hir : RowAt w5 1 (.slice (some ⟨g5, 0, none⟩) 2 2) (([true, true] : List Bool).map boolCells) := row_blk (t := 4) hi5 rfl (by decide) (rows2 (r := boolCells true) (s := boolCells true) rfl rfl)
 have ht1 : ∀ ww, Below w5.heap.size w5 ww → Calls Tryz.prog 17 #[.slice (some ⟨gk, 0, none⟩) 4 cap, .slice (some ⟨gk, 0, none⟩) 4 cap] ww fun e w' => e = .returned (.bool true) ∧ Below ww.heap.size ww w' := fun ww hb => by
  have := touch17 ksA ksA _ _ ww (hkrow.below hb (Nat.le_refl _)) (hkrow.below hb (Nat.le_refl _)); rw [awk_t1] at this; exact this
 have ht2 : ∀ b ww, Below w5.heap.size w5 ww → Blk ww b #[.int .i64 1, .string ⟨#[46]⟩] 61 → Calls Tryz.prog 17 #[.slice (some ⟨gk, 0, none⟩) 4 cap, .slice (some ⟨b, 0, none⟩) 1 1] ww fun e w' => e = .returned (.bool false) ∧ Below ww.heap.size ww w' := fun b ww hb hbk => by
  have := touch17 ksA [⟨1, ⟨#[46]⟩⟩] _ _ ww (hkrow.below hb (Nat.le_refl _)) (row_blk (t := 61) hbk rfl (by decide) (rows1 (r := PKey.cells ⟨1, ⟨#[46]⟩⟩) rfl)); rw [awk_t2] at this; exact this
 have hsb : ∀ b ww, Below w5.heap.size w5 ww → Blk ww b #[.bool true, .bool true] 4 → Calls Tryz.prog 25 #[.slice (some ⟨g5, 0, none⟩) 2 2, .slice (some ⟨b, 0, none⟩) 2 2] ww fun e w' => e = .returned (.bool true) ∧ Below ww.heap.size ww w' := fun b ww hb hbk => sameBools25 [true, true] [true, true] _ _ ww (hir.below hb (Nat.le_refl _)) (row_blk (t := 4) hbk rfl (by decide) (rows2 (r := boolCells true) (s := boolCells true) rfl rfl))
 have hcd : ∀ b b' ww, Below w5.heap.size w5 ww → Blk ww b #[.int .i64 0, .int .i64 0, .int .i64 0, .int .i64 0, .int .i64 0, .string ⟨#[47, 97]⟩, .string ⟨#[]⟩, .string ⟨#[]⟩] 28 → Blk ww b' #[.bool false] 4 → Calls Tryz.prog 26 #[.agg #[.slice a1 n1 x1, .slice a2 n2 x2, .slice a3 n3 x3], .slice (some ⟨b, 0, none⟩) 1 1, .slice (some ⟨b', 0, none⟩) 1 1] ww fun e w' => e = .returned (.bool true) ∧ Below ww.heap.size ww w' := fun b b' ww hb hbk hbk' => by
  have := closed26 _ _ _ (newSt 2) [cA] [false] _ _ ww (hs5.below hb (Nat.le_refl _)) awk_wf (row_blk (t := 28) hbk rfl (by decide) (rows1 (r := PCall.cells cA) rfl)) (by decide) (by decide) (row_blk (t := 4) hbk' rfl (by decide) (rows1 (r := boolCells false) rfl)) (by decide); rw [closedM_eq, awk_cd] at this; exact this
 have dk0 : w5.cell? ⟨b1, 0, none⟩ = some (.slice a1 n1 x1) := (hB5.1).cell 0
 have dk1 : w5.cell? ⟨b1, 1, none⟩ = some (.slice a2 n2 x2) := (hB5.1).cell 1
 have dk2 : w5.cell? ⟨b1, 2, none⟩ = some (.slice a3 n3 x3) := (hB5.1).cell 2
 have dik := (hB5.1).lt
 have dic := (hB5.2).lt
 have dc0 : w5.cell? ⟨b1 + 1, 0, none⟩ = some (.int .i64 0) := (hB5.2).cell 0
 have dc1 : w5.cell? ⟨b1 + 1, 1, none⟩ = some (.int .i64 0) := (hB5.2).cell 1
 have dc2 : w5.cell? ⟨b1 + 1, 2, none⟩ = some (.int .i64 0) := (hB5.2).cell 2
 have dc3 : w5.cell? ⟨b1 + 1, 3, none⟩ = some (.int .i64 0) := (hB5.2).cell 3
 have dc4 : w5.cell? ⟨b1 + 1, 4, none⟩ = some (.int .i64 0) := (hB5.2).cell 4
 have dc5 : w5.cell? ⟨b1 + 1, 5, none⟩ = some (.string ⟨#[47, 97]⟩) := (hB5.2).cell 5
 have dc6 : w5.cell? ⟨b1 + 1, 6, none⟩ = some (.string ⟨#[]⟩) := (hB5.2).cell 6
 have dc7 : w5.cell? ⟨b1 + 1, 7, none⟩ = some (.string ⟨#[]⟩) := (hB5.2).cell 7
 have u0 := guard61
 have u1 : ∀ w, (binOp .eql 61 (.agg #[.int .i64 (-1), .string { data := #[] }]) (.agg #[.int .i64 (-1), .string { data := #[] }])).run Tryz.prog w = .ok (.bool true) w := fun w => by
  have := eql61 ⟨-1, ⟨#[]⟩⟩ ⟨-1, ⟨#[]⟩⟩ w; rw [decide_eq_true rfl] at this; exact this
 have u2 : ∀ w, (binOp .eql 61 (.agg #[.int .i64 2, .string { data := #[] }]) (.agg #[.int .i64 2, .string { data := #[] }])).run Tryz.prog w = .ok (.bool true) w := fun w => by
  have := eql61 ⟨2, ⟨#[]⟩⟩ ⟨2, ⟨#[]⟩⟩ w; rw [decide_eq_true rfl] at this; exact this
 have HB := Lib.hid hbw5
 clear hbw5 hB5 hs5 hkrow hir hi5 hg5
 go_wp2_with (first | (go_at_call 17; with_reducible refine aT (ht1 _ (bel _ _)) fun p => ?_) | (go_at_call 17; with_reducible refine aT (ht2 _ _ (bel _ _) (by exact Blk.new_i _ _ _ _)) fun p => ?_) | (go_at_call 25; refine aT (hsb _ _ (bel _ _) (by exact Blk.new_i _ _ _ _)) fun p => ?_) | (go_at_call 26; refine aT (hcd _ _ _ (bel _ _) (by repeat (first | exact Blk.new_i _ _ _ _ | refine Blk.alloc ?_ _)) (by repeat (first | exact Blk.new_i _ _ _ _ | refine Blk.alloc ?_ _))) fun p => ?_) | (go_at_call 35; refine aT (num35 _ _) fun p => ?_))
 go_ret
 exact ⟨rfl, HB.out.trans ((bel w5 _).mono HB.out.size)⟩
end Go.Proofs.YtmkapobnfigedaaGreatDoor
