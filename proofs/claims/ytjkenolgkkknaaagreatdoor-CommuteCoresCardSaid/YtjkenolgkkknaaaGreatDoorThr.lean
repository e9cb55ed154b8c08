/- Codes that are thrown; a path's names or a code. Conditions: none. -/
import Derived.Test.YtjkenolgkkknaaaGreatDoorEty
import Derived.Test.YtjkenolgkkknaaaGreatDoorOwn
set_option linter.unusedVariables false
set_option linter.unusedSimpArgs false
namespace Go.Proofs.YtjkenolgkkknaaaGreatDoor
open Go.RowKit
/-- What is thrown with a code. -/
def chainOf (c : Int) : List PanicEntry := [{ v := .iface 78 (.agg #[.int .i64 c]), recovered := false }]
abbrev thrown (c : Int) : Ending := .panicked (chainOf c)
theorem throw_no (c : Int) (w : World) :
    Calls Tryz.prog 115 #[.bool false, .int .i64 c] w fun e w' => e = .returned (.tuple #[]) ∧ Below w.heap.size w w' := by
  go_enter Tryz.func115, Tryz.ntmps115
  go_wp2_with fail
  exact bodyPost_end (v := .tuple #[]) (by simp [results, go_sem]) rfl ⟨rfl, bel _ _⟩
theorem throw_yes (c : Int) (w : World) :
    Calls Tryz.prog 115 #[.bool true, .int .i64 c] w fun e w' => e = thrown c ∧ Below w.heap.size w w' := by
  go_enter Tryz.func115, Tryz.ntmps115
  go_wp2_with fail
  exact ⟨rfl, rfl, Below.refl _ _⟩
theorem own_one' {w : World} {B n k : Nat} {e : TypeId} {v : Value} {xs : List Value} (h : w.ownsRow B e k v n xs) : v.oneCell' = true := by
  obtain ⟨_, ⟨rfl, _⟩ | ⟨g, cap, cur, rfl, _⟩⟩ := h <;> rfl
/-- A path's names; or the code is thrown. -/
def ParsedOr (w : World) (s : ByteArray) (e : Ending) (w' : World) : Prop :=
  ((parseM s).1 = 0 ∧ ∃ v, e = .returned v ∧ Below w.heap.size w w' ∧ RowAt w' 1 v ((parseM s).2.map fun n => [.string n])) ∨ ((parseM s).1 ≠ 0 ∧ e = thrown (codeM (parseM s).1) ∧ Below w.heap.size w w')
theorem flat_one {α β : Type} (f : α → β) : ∀ ns : List α, (ns.map fun n => [f n]).flatten = ns.map f
  | [] => rfl
  | n :: ns => by simp [flat_one f ns]
set_option maxRecDepth 100000 in
theorem parse150 (s : ByteArray) (w : World) : Calls Tryz.prog 150 #[.string s] w (ParsedOr w s) := by
  have hp := parse136 s w
  unfold ParsedOr
  generalize parseM s = F at hp ⊢
  obtain ⟨c, ns⟩ := F
  by_cases h : c = 0
  · subst h
    have hc : ∀ ww, Calls Tryz.prog 167 #[.int .i64 0] ww _ := fun ww => code167 0 ww
    go_enter Tryz.func150, Tryz.ntmps150
    go_wp2_with (first | (go_at_call 136; refine hp.mono ?_; rintro e w1 ⟨v, rfl, hb, hown, hbl⟩; have hone := own_one' hown; have iB : Bel w w1 := ⟨hb⟩; have HO := Lib.hid (And.intro hown hb); clear hown hb hbl) | (go_at_call 167; refine (hc _).mono ?_; rintro e w' ⟨rfl, hb⟩; obtain ⟨p, rfl⟩ := hb.rest; clear hb) | (go_at_call 115; refine (throw_no _ _).mono ?_; rintro e w' ⟨rfl, hb⟩; obtain ⟨p, rfl⟩ := hb.rest; clear hb))
    go_ret
    refine .inl ⟨by simp, _, rfl, bel _ _, ?_⟩
    have := (OwnP.of_own (rows := ns.map fun n => [.string n]) (by rw [List.length_map, flat_one]; exact HO.out.1) (by decide) (by intro cs h; obtain ⟨x, _, rfl⟩ := List.mem_map.1 h; rfl)).row
    exact this.below (bel w1 _) (Nat.le_refl _)
  · have hc : ∀ ww, Calls Tryz.prog 167 #[.int .i64 c] ww _ := fun ww => code167 c ww
    have hcb : (c != 0) = true := by simpa using h
    generalize hcm : codeM c = cm at hc
    go_enter Tryz.func150, Tryz.ntmps150
    go_wp2_with (first | (go_at_call 136; refine hp.mono ?_; rintro e w1 ⟨v, rfl, hb, hown, hbl⟩; have hone := own_one' hown; have iB : Bel w w1 := ⟨hb⟩; clear hown hb hbl) | (go_at_call 167; refine (hc _).mono ?_; rintro e w' ⟨rfl, hb⟩; obtain ⟨p, rfl⟩ := hb.rest; clear hb) | (go_at_call 115; refine (throw_yes _ _).mono ?_; rintro e w' ⟨rfl, hb⟩; obtain ⟨p, rfl⟩ := hb.rest; clear hb))
    exact ⟨rfl, .inr ⟨h, rfl, bel _ _⟩⟩
end Go.Proofs.YtjkenolgkkknaaaGreatDoor
