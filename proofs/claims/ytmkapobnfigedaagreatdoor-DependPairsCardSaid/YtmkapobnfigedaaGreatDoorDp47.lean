/- Part of the proof of a law of chapter 15. Conditions: none. -/
import Derived.Test.YtmkapobnfigedaaGreatDoorDp19
import Derived.Test.YtmkapobnfigedaaGreatDoorDp46
set_option linter.unusedVariables false
set_option linter.unusedSimpArgs false
set_option maxRecDepth 100000
set_option maxHeartbeats 8000000
namespace Go.Proofs.YtmkapobnfigedaaGreatDoor
open Go.RowKit
def RDid (S : PSt) (kd core fd off nu : Int) (pt p2 dt : ByteArray) (S' : PSt) (r : Int) : Prop :=
 ∀ (w : World) (iv ov mv : Value), StRead w iv ov mv S → Calls Tryz.prog 31 #[.agg #[iv, ov, mv], .agg #[.int .i64 kd, .int .i64 core, .int .i64 fd, .int .i64 off, .int .i64 nu, .string pt, .string p2, .string dt]] w fun e w' => ∃ iv' ov' mv', e = .returned (.tuple #[.agg #[iv', ov', mv'], resV 0 0 r]) ∧ Below w.heap.size w w' ∧ StOwn w.heap.size w' iv' ov' mv' S'
def fineB (S : PSt) : Bool := decide (0 ≤ atR S 1) && S.ins.all fun x => x.ents.all fun e => decide (0 ≤ atR S e.num)
theorem fine_of {S : PSt} (hwf : S.wf) (h : fineB S = true) : FineR S := by
 unfold fineB at h
 simp only [Bool.and_eq_true, decide_eq_true_eq, List.all_eq_true] at h
 exact ⟨hwf, h.1, fun x hx e he => h.2 x hx e he⟩
theorem r_make {S : PSt} {kd fd off nu : Int} {path p2 dt nm : ByteArray} {D : Int} {K0 : Nat} {x : PIn} {k : Nat} {m : Int} (hkd : kd = 0 ∨ kd = 1) (hgo : goodB S = true) (hg : mayG S = true) (hf : fineB S = true) (hpar : parentR S path = (D, nm, 0)) (hat0 : atR S D = K0) (hx : S.ins[K0]? = some x)
 (hns : nm.size ≤ 1000000000) (hent : entryR S D nm = 0) (hful : decide (4 ≤ fullF (bucketR nm) { data := #[] } x.ents 0) = false) (hes : ∀ e ∈ x.ents, e.name.size ≤ 1000000000) (hm : S.made[k]? = some m) (hm0 : 0 ≤ m ∧ m < 32) (hk8 : k < 8) :
 RDid S kd k fd off nu path p2 dt (mkK S K0 x nm k m (kd == 1)) 0 := by
 intro w iv ov mv h
 obtain ⟨hkl, -⟩ := gI.1 hm
 refine ref15 S _ iv ov mv kd k fd off nu 0 path p2 dt w h (fun ww hb => ?_)
 have h' := h.below hb (Nat.le_refl _)
 have hwf := (good_wf hgo).1
 rcases hkd with rfl | rfl
 · exact do34_0 S _ iv ov mv k fd off nu 0 path p2 dt ww h' hwf hg (by omega) (by omega) (fun B b iv' ov' mv' w3 k1 k2 k3 k4 => make56g B b S iv' ov' mv' 0 fd off nu path p2 dt nm D K0 x k m w3 k1 k2 k3 k4 (fine_of hwf hf) hpar hat0 hx hns hent hful hes hm hm0 hk8)
 · exact do34_1 S _ iv ov mv k fd off nu 0 path p2 dt ww h' hwf hg (by omega) (by omega) (fun B b iv' ov' mv' w3 k1 k2 k3 k4 => make56g B b S iv' ov' mv' 1 fd off nu path p2 dt nm D K0 x k m w3 k1 k2 k3 k4 (fine_of hwf hf) hpar hat0 hx hns hent hful hes hm hm0 hk8)
theorem r_open {S : PSt} {core fd off nu : Int} {path p2 dt : ByteArray} {num : Int} {K : Nat} {x : PIn} (hgo : goodB S = true) (hg : mayG S = true) (hf : fineB S = true) (hc0 : 0 ≤ core) (hc1 : core < S.made.length)
 (hfind : findR S path = (num, 0)) (hat : atR S num = K) (hx : S.ins[K]? = some x) (hd : x.dir = false) (hfd : fdR S core 0 = 0) :
 RDid S 2 core fd off nu path p2 dt { S with op := insF (aheadD core 0) ⟨core, 0, num⟩ S.op false [] } 0 := by
 intro w iv ov mv h
 have hwf := (good_wf hgo).1
 refine ref15 S _ iv ov mv 2 core fd off nu 0 path p2 dt w h (fun ww hb => ?_)
 exact do34_2 S _ iv ov mv core fd off nu 0 path p2 dt ww (h.below hb (Nat.le_refl _)) hwf hg hc0 hc1 (fun B b iv' ov' mv' w3 k1 k2 k3 k4 => opened57g B b S iv' ov' mv' 2 core fd off nu path p2 dt num K x 0 w3 k1 k2 k3 k4 (fine_of hwf hf) hfind hat hx hd (by omega) (by omega) hfd (fun i a b => by omega))
def nil : ByteArray := ⟨#[]⟩
def nD : ByteArray := ⟨#[100]⟩
def nE : ByteArray := ⟨#[101]⟩
def nF : ByteArray := ⟨#[102]⟩
def nG : ByteArray := ⟨#[103]⟩
def t0 : PSt := newSt 4
def t1 : PSt := mkK t0 0 ⟨1, true, [], nil⟩ nD 0 0 true
def t2 : PSt := mkK t1 0 ⟨1, true, [⟨nD, 2⟩], nil⟩ nE 0 1 true
def t3 : PSt := mkK t2 1 ⟨2, true, [], nil⟩ nF 0 2 false
def t4 : PSt := mkK t3 2 ⟨10, true, [], nil⟩ nG 0 3 false
def t5 : PSt := { t4 with op := insF (aheadD 1 0) ⟨1, 0, 18⟩ t4.op false [] }
theorem small_ {es : List PEnt} (h : (es.all fun e => e.name.size.ble 1000) = true) : ∀ e ∈ es, e.name.size ≤ 1000000000 := by
 intro e he
 have := Nat.le_of_ble_eq_true (List.all_eq_true.1 h e he)
 omega
theorem e1 : RDid t0 1 0 0 0 0 ⟨#[47, 100]⟩ nil nil t1 0 := r_make (k := 0) (D := 1) (.inr rfl) (by kernel_rfl) (by kernel_rfl) (by kernel_rfl) (by kernel_rfl) (by kernel_rfl) (by kernel_rfl) (by decide) (by kernel_rfl) (by kernel_rfl) (small_ (by kernel_rfl)) (by kernel_rfl) (by omega) (by omega)
theorem e2 : RDid t1 1 0 0 0 0 ⟨#[47, 101]⟩ nil nil t2 0 := r_make (k := 0) (D := 1) (.inr rfl) (by kernel_rfl) (by kernel_rfl) (by kernel_rfl) (by kernel_rfl) (by kernel_rfl) (by kernel_rfl) (by decide) (by kernel_rfl) (by kernel_rfl) (small_ (by kernel_rfl)) (by kernel_rfl) (by omega) (by omega)
theorem e3 : RDid t2 0 0 0 0 0 ⟨#[47, 100, 47, 102]⟩ nil nil t3 0 := r_make (k := 0) (D := 2) (.inl rfl) (by kernel_rfl) (by kernel_rfl) (by kernel_rfl) (by kernel_rfl) (by kernel_rfl) (by kernel_rfl) (by decide) (by kernel_rfl) (by kernel_rfl) (small_ (by kernel_rfl)) (by kernel_rfl) (by omega) (by omega)
theorem e4 : RDid t3 0 0 0 0 0 ⟨#[47, 101, 47, 103]⟩ nil nil t4 0 := r_make (k := 0) (D := 10) (.inl rfl) (by kernel_rfl) (by kernel_rfl) (by kernel_rfl) (by kernel_rfl) (by kernel_rfl) (by kernel_rfl) (by decide) (by kernel_rfl) (by kernel_rfl) (small_ (by kernel_rfl)) (by kernel_rfl) (by omega) (by omega)
theorem e5 : RDid t4 2 1 0 0 0 ⟨#[47, 100, 47, 102]⟩ nil nil t5 0 := r_open (K := 3) (x := ⟨18, false, [], nil⟩) (by kernel_rfl) (by kernel_rfl) (by kernel_rfl) (by omega) (by show (1 : Int) < ((4 : Nat) : Int); omega) (by kernel_rfl) (by kernel_rfl) (by kernel_rfl) rfl (by kernel_rfl)
theorem t5_wf : t5.wf := (good_wf (S := t5) (by kernel_rfl)).1
def cN (k c : Int) (p : ByteArray) : PCall := ⟨k, c, 0, 0, 0, p, nil, nil⟩
theorem hg0 : closureV t5 [cN 9 2 ⟨#[47, 100, 47, 102]⟩, cN 0 3 ⟨#[47, 100, 47, 102]⟩] [1] = [true, true] := by kernel_rfl
theorem hg1 : closureV t5 [cN 0 0 ⟨#[47, 100, 47, 120]⟩, cN 0 2 ⟨#[47, 101, 47, 120]⟩] [1] = [false, true] := by kernel_rfl
theorem hg2 : closureV t5 [cN 0 0 ⟨#[47, 100, 47, 120]⟩, cN 0 0 ⟨#[47, 101, 47, 120]⟩] [1] = [true, true] := by kernel_rfl
theorem hg3 : closureV t5 [⟨11, 2, 0, 0, 0, ⟨#[47, 100]⟩, ⟨#[47, 101, 47, 100]⟩, nil⟩, cN 0 3 ⟨#[47, 101, 47, 100, 47, 120]⟩] [1] = [true, true] := by kernel_rfl
theorem hg4 : closureV t5 [⟨5, 1, 0, 0, 0, nil, nil, ⟨#[122]⟩⟩, cN 0 0 ⟨#[47, 100, 47, 120]⟩] [1] = [false, true] := by kernel_rfl
theorem hg5 : closureV t5 [⟨5, 1, 0, 0, 0, nil, nil, ⟨#[122]⟩⟩, cN 9 2 ⟨#[47, 100, 47, 102]⟩] [1] = [true, true] := by kernel_rfl
theorem hg6 : closureV t5 [cN 13 2 ⟨#[47, 100, 47, 102]⟩, cN 9 3 ⟨#[47, 100, 47, 102]⟩] [1] = [false, true] := by kernel_rfl
theorem hg7 : closureV t5 [cN 1 2 ⟨#[47, 110]⟩, cN 0 3 ⟨#[47, 110, 47, 120]⟩] [1] = [true, true] := by kernel_rfl
end Go.Proofs.YtmkapobnfigedaaGreatDoor
