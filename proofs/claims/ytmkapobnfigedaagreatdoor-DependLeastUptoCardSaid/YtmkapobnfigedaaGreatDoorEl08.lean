/- A file system's state as data, and how it lies in memory; searches with a closure. Conditions: none. -/
import Derived.Test.YtmkapobnfigedaaGreatDoorEl07
set_option linter.unusedVariables false
namespace Go.Proofs.YtmkapobnfigedaaGreatDoor
open Go.RowKit
structure PEnt where
 name : ByteArray
 num : Int
deriving DecidableEq
structure PIn where
 num : Int
 dir : Bool
 ents : List PEnt
 data : ByteArray
deriving DecidableEq
structure PDesc where
 core : Int
 fd : Int
 num : Int
deriving DecidableEq
structure PSt where
 ins : List PIn
 op : List PDesc
 made : List Int
deriving DecidableEq
def I64 (x : Int) : Prop := -9223372036854775808 ≤ x ∧ x ≤ 9223372036854775807
theorem I64.wrap {x : Int} (h : I64 x) : IntKind.i64.wrap x = x := by
 unfold I64 at h
 simp [IntKind.wrap, IntKind.bits, IntKind.signed]
 omega
def PEnt.cells (x : PEnt) : List Value := [.string x.name, .int .i64 x.num]
def PDesc.cells (x : PDesc) : List Value := [.int .i64 x.core, .int .i64 x.fd, .int .i64 x.num]
def intCells (x : Int) : List Value := [.int .i64 x]
def IRec.is (w : World) (r : IRec) (x : PIn) : Prop := r.num = x.num ∧ r.dir = x.dir ∧ r.data = x.data ∧ RowAt w 2 r.ev (x.ents.map PEnt.cells)
def PSt.wf (S : PSt) : Prop :=
 S.ins.length ≤ 1000000000 ∧ S.op.length ≤ 1000000000 ∧ S.made.length ≤ 1000000000 ∧ (∀ x ∈ S.ins, I64 x.num ∧ x.ents.length ≤ 1000000000 ∧ ∀ e ∈ x.ents, I64 e.num) ∧ (∀ d ∈ S.op, I64 d.core ∧ I64 d.fd ∧ I64 d.num) ∧ ∀ m ∈ S.made, I64 m
def StRead (w : World) (iv ov mv : Value) (S : PSt) : Prop :=
 RowAt w 3 ov (S.op.map PDesc.cells) ∧ RowAt w 1 mv (S.made.map intCells) ∧ ∃ is : List IRec, RowAt w 4 iv (is.map IRec.cells) ∧ is.length = S.ins.length ∧ ∀ (q : Nat) (r : IRec) (x : PIn), is[q]? = some r → S.ins[q]? = some x → r.is w x
theorem StRead.below {w w' : World} {iv ov mv : Value} {S : PSt} {B : Nat} (h : StRead w iv ov mv S) (hb : Below B w w') (hB : w.heap.size ≤ B) : StRead w' iv ov mv S := by
 obtain ⟨h1, h2, is, h3, h4, h5⟩ := h
 exact ⟨h1.below hb hB, h2.below hb hB, is, h3.below hb hB, h4, fun q r x hr hx => by
  obtain ⟨a1, a2, a3, a4⟩ := h5 q r x hr hx; exact ⟨a1, a2, a3, a4.below hb hB⟩⟩
theorem RowAt.one {w : World} {k : Nat} {v : Value} {rows : List (List Value)} (h : RowAt w k v rows) : v.oneCell' = true := by
 obtain ⟨a, cap, rfl, _⟩ := h
 rfl
theorem RowAt.at_ {w : World} {k : Nat} {v : Value} {rows : List (List Value)} (h : RowAt w k v rows) :
 ∃ a cap, v = .slice a rows.length cap ∧ ∀ wr, Below w.heap.size w wr → ∀ (q : Nat) (cs : List Value), rows[q]? = some cs → ∃ b off, a = some ⟨b, off, none⟩ ∧ BlockLt b w ∧ BlockLt b wr ∧ ∀ (t : Nat) (u : Value), cs[t]? = some u → wr.cell? ⟨b, off + q * k + t, none⟩ = some u := by
 obtain ⟨a, cap, rfl, _, hr⟩ := h
 refine ⟨a, cap, rfl, fun wr hb q cs hq => ?_⟩
 obtain ⟨hlt, _⟩ := List.getElem?_eq_some_iff.1 hq
 obtain ⟨b, off, rfl, hb0, hc⟩ := hr (by omega)
 have hs := hb.size
 exact ⟨b, off, rfl, ⟨hb0⟩, ⟨by omega⟩, fun t u hu => (hb.cell (p := ⟨b, _, none⟩) hb0).trans (hc q cs hq t u hu)⟩
def idxFrom {α : Type} (p : α → Bool) : List α → Nat → Int
 | [], _ => -1
 | x :: r, q => if p x = true then (q : Int) else idxFrom p r (q + 1)
def idxM {α : Type} (p : α → Bool) (zs : List α) : Int := idxFrom p zs 0
theorem idxFrom_drop {α : Type} (p : α → Bool) (zs : List α) (q : Nat) (z : α) (h : zs[q]? = some z) : idxFrom p (zs.drop q) q = if p z = true then (q : Int) else idxFrom p (zs.drop (q + 1)) (q + 1) := by
 obtain ⟨hlt, rfl⟩ := List.getElem?_eq_some_iff.1 h
 rw [List.drop_eq_getElem_cons hlt]
 rfl
theorem idxFrom_end {α : Type} (p : α → Bool) (zs : List α) (q : Nat) (h : ¬ q < zs.length) : idxFrom p (zs.drop q) q = -1 := by
 rw [List.drop_of_length_le (by omega)]
 rfl
theorem idxFrom_bounds {α : Type} (p : α → Bool) (zs : List α) : ∀ q : Nat, idxFrom p zs q = -1 ∨ ((q : Int) ≤ idxFrom p zs q ∧ idxFrom p zs q < q + zs.length) := by
 induction zs with
 | nil => exact fun q => .inl rfl
 | cons z zs ih =>
   intro q; unfold idxFrom; by_cases h : p z = true
   · rw [if_pos h]; right; simp only [List.length_cons]; omega
   · rw [if_neg h]; rcases ih (q + 1) with h | h
     · exact .inl h
     · right; simp only [List.length_cons] at h ⊢; omega
theorem idxM_bounds {α : Type} (p : α → Bool) (zs : List α) : idxM p zs = -1 ∨ (0 ≤ idxM p zs ∧ idxM p zs < zs.length) := by
 rcases idxFrom_bounds p zs 0 with h | h
 · exact .inl h
 · right; unfold idxM; omega
theorem idxM_any {α : Type} (p : α → Bool) (zs : List α) : (decide (0 ≤ idxM p zs)) = zs.any p := by
 have key : ∀ (zs : List α) (q : Nat), (decide (0 ≤ idxFrom p zs q)) = zs.any p := by
  intro zs
  induction zs with
  | nil => exact fun q => by simp [idxFrom]
  | cons z zs ih =>
    intro q; rw [List.any_cons, idxFrom]; by_cases h : p z = true
    · rw [if_pos h, h]; simp
    · rw [if_neg h, ih]; simp [h]
 exact key zs 0
set_option maxRecDepth 100000 in
theorem index145 (zs : List Int) (v : Value) (p : Int → Bool) (w : World) (h : RowAt w 1 v (zs.map intCells)) (hlen : zs.length ≤ 1000000000)
 (hg : ∀ (z : Int) (ww : World), z ∈ zs → Below w.heap.size w ww → Calls Tryz.prog 99 #[.int .i64 z] ww fun e w' => e = .returned (.bool (p z)) ∧ Below ww.heap.size ww w') :
 Calls Tryz.prog 129 #[v, .func (.func 99) #[] #[]] w fun e w' => e = .returned (.int .i64 (idxM p zs)) ∧ Below w.heap.size w w' := by
 obtain ⟨a, cap, rfl, hat⟩ := h.at_
 rw [List.length_map]
 have HA := Lib.hid hat
 clear hat h
 unfold idxM
 obtain ⟨R, hR⟩ : ∃ R, idxFrom p zs 0 = R := ⟨_, rfl⟩
 rw [hR]
 have HR := Lib.hid hR
 clear hR
 go_enter Tryz.func129, Tryz.ntmps129
 go_wp2_with fail
 go_loopw [8] (fun i wr => ∃ (q : Nat), i = .int .i64 q ∧ q ≤ zs.length ∧ idxFrom p (zs.drop q) q = R ∧ Below w.heap.size w wr) (fun i _ => (zs.length - intOf i).toNat)
 case atStart => exact ⟨0, rfl, by omega, HR.out, bel _ _⟩
 case round =>
  obtain ⟨q, rfl, hq, hre, hb⟩ := hrel; have iB : Bel w wr := ⟨hb⟩
  by_cases hlt : q < zs.length
  · obtain ⟨z, hz⟩ : ∃ z, zs[q]? = some z := ⟨_, List.getElem?_eq_getElem hlt⟩
    obtain ⟨b, off, rfl, iG0, iG, hc⟩ := HA.out wr hb q (intCells z) (by rw [List.getElem?_map, hz]; rfl); have c0 := hc 0 _ rfl; rw [idxFrom_drop p zs q z hz] at hre; have hcall : ∀ ww, Below w.heap.size w ww → Calls Tryz.prog 99 #[.int .i64 z] ww fun e w' => e = .returned (.bool (p z)) ∧ Below ww.heap.size ww w' := fun ww hww => hg z ww (List.mem_of_getElem? hz) hww
    have HZ := Lib.hid (And.intro hz hre); clear hc hz hre hg; rw [Nat.mul_one, Nat.add_zero] at c0; generalize hpz : p z = t at hcall HZ; rcases t with _ | _
    · go_wp2_with (go_at_call 99; refine (hcall _ (bel _ _)).mono ?_; rintro e w' ⟨rfl, hb⟩; obtain ⟨p, rfl⟩ := hb.rest; clear hb)
      go_roundw
      case rel => exact ⟨q + 1, by go_num, by omega, by have := HZ.out.2; simpa using this, bel _ _⟩
      case measure => simp [intOf]; omega
    · have hv : R = q := by have := HZ.out.2; simpa using this.symm
      subst hv; go_wp2_with (go_at_call 99; refine (hcall _ (bel _ _)).mono ?_; rintro e w' ⟨rfl, hb⟩; obtain ⟨p, rfl⟩ := hb.rest; clear hb)
      exact bodyPost_ret (v := .int .i64 q) (by simp [results, Tryz.results129, go_sem]) rfl ⟨rfl, bel _ _⟩
  · rw [idxFrom_end p zs q hlt] at hre; subst hre; clear hg; go_wp2_with fail; exact bodyPost_ret (v := .int .i64 (-1)) (by simp [results, Tryz.results129, go_sem]) rfl ⟨rfl, bel _ _⟩
set_option maxRecDepth 100000 in
theorem index45o (zs : List PDesc) (v : Value) (l0 : Value) (p : PDesc → Bool) (w : World) (h : RowAt w 3 v (zs.map PDesc.cells)) (hlen : zs.length ≤ 1000000000)
 (hg : ∀ (z : PDesc) (ww : World), z ∈ zs → Below w.heap.size w ww → Calls Tryz.prog 104 #[.agg #[.int .i64 z.core, .int .i64 z.fd, .int .i64 z.num], l0] ww fun e w' => e = .returned (.bool (p z)) ∧ Below ww.heap.size ww w') :
 Calls Tryz.prog 136 #[v, .func (.func 104) #[] #[l0]] w fun e w' => e = .returned (.int .i64 (idxM p zs)) ∧ Below w.heap.size w w' := by
 obtain ⟨a, cap, rfl, hat⟩ := h.at_
 rw [List.length_map]
 have HA := Lib.hid hat
 clear hat h
 unfold idxM
 obtain ⟨R, hR⟩ : ∃ R, idxFrom p zs 0 = R := ⟨_, rfl⟩
 rw [hR]
 have HR := Lib.hid hR
 clear hR
 go_enter Tryz.func136, Tryz.ntmps136
 go_wp2_with fail
 go_loopw [8] (fun i wr => ∃ (q : Nat), i = .int .i64 q ∧ q ≤ zs.length ∧ idxFrom p (zs.drop q) q = R ∧ Below w.heap.size w wr) (fun i _ => (zs.length - intOf i).toNat)
 case atStart => exact ⟨0, rfl, by omega, HR.out, bel _ _⟩
 case round =>
  obtain ⟨q, rfl, hq, hre, hb⟩ := hrel; have iB : Bel w wr := ⟨hb⟩
  by_cases hlt : q < zs.length
  · obtain ⟨z, hz⟩ : ∃ z, zs[q]? = some z := ⟨_, List.getElem?_eq_getElem hlt⟩
    obtain ⟨b, off, rfl, iG0, iG, hc⟩ := HA.out wr hb q (PDesc.cells z) (by rw [List.getElem?_map, hz]; rfl); have c0 := hc 0 _ rfl; have c1 := hc 1 _ rfl; have c2 := hc 2 _ rfl; rw [idxFrom_drop p zs q z hz] at hre; have hcall : ∀ ww, Below w.heap.size w ww → Calls Tryz.prog 104 #[.agg #[.int .i64 z.core, .int .i64 z.fd, .int .i64 z.num], l0] ww fun e w' => e = .returned (.bool (p z)) ∧ Below ww.heap.size ww w' := fun ww hww => hg z ww (List.mem_of_getElem? hz) hww
    have HZ := Lib.hid (And.intro hz hre); clear hc hz hre hg; rw [Nat.add_zero] at c0; generalize hpz : p z = t at hcall HZ; rcases t with _ | _
    · go_wp2_with (go_at_call 104; refine (hcall _ (bel _ _)).mono ?_; rintro e w' ⟨rfl, hb⟩; obtain ⟨p, rfl⟩ := hb.rest; clear hb)
      go_roundw
      case rel => exact ⟨q + 1, by go_num, by omega, by have := HZ.out.2; simpa using this, bel _ _⟩
      case measure => simp [intOf]; omega
    · have hv : R = q := by have := HZ.out.2; simpa using this.symm
      subst hv; go_wp2_with (go_at_call 104; refine (hcall _ (bel _ _)).mono ?_; rintro e w' ⟨rfl, hb⟩; obtain ⟨p, rfl⟩ := hb.rest; clear hb)
      exact bodyPost_ret (v := .int .i64 q) (by simp [results, Tryz.results136, go_sem]) rfl ⟨rfl, bel _ _⟩
  · rw [idxFrom_end p zs q hlt] at hre; subst hre; clear hg; go_wp2_with fail; exact bodyPost_ret (v := .int .i64 (-1)) (by simp [results, Tryz.results136, go_sem]) rfl ⟨rfl, bel _ _⟩
end Go.Proofs.YtmkapobnfigedaaGreatDoor
