/- A part of a proof of a law. Conditions: none. -/
import Derived.WalkKit
import Derived.WalkSpells
import Derived.WalkLawsBesides
import Derived.Deep.QuietTactic
import Derived.BigQuiet
import Derived.Lib.Hide
import Derived.Test.YtmkapobnfigedaaGreatDoorRows
import Derived.Deep.RegionHeld3
import Derived.Deep.DeepCutAuto
import Derived.Maps.AppendAt
import Derived.RegionTactic
import Derived.OwnWalk
set_option linter.unusedVariables false
set_option linter.unusedSimpArgs false
set_option maxRecDepth 100000
set_option maxHeartbeats 40000000
instance:Coe Nat Go.Addr:=⟨λb=>⟨b,0,none⟩⟩
instance:Coe Int Go.Value:=⟨λb=>.int .i64 b⟩
instance:Coe Nat Go.Value:=⟨λb=>.int .i64 b⟩
instance:Coe ByteArray Go.Value:=⟨λb=>.string b⟩
instance:Coe Bool Go.Value:=⟨λb=>.bool b⟩
instance:Coe Unit (Array Go.Value):=⟨λ_=>#[.int .i64 0,.int .i64 0,.int .i64 0,.bool false,.string ⟨#[]⟩,.slice none 0 0]⟩
namespace Go
structure Behind where
 G:Array Obj
 d:Nat
instance:Inhabited Behind:=⟨⟨#[],0⟩⟩
def Behind.len (p:Behind):Nat:=p.G.size
def Behind.more (p q:Behind):Behind:=⟨p.G++q.G,q.d⟩
def Behind.drew (p:Behind):Behind:=⟨p.G,p.d+1⟩
def World.junk (w:World) (p:Behind):World:={ w with heap:=w.heap++p.G,drawn:=p.d}
theorem World.size_junk0 (w:World) (p:Behind):(w.junk p).heap.size=w.heap.size+p.len:=by simp[World.junk,Behind.len]
theorem World.heap_junk (w:World) (p:Behind) {b:Nat} (h:b<w.heap.size):(w.junk p).heap[b]? =w.heap[b]? :=by simp only[World.junk];rw[Array.getElem?_append_left h]
class SizeIs (w:World) (n:outParam Nat):Prop where
 eq:w.heap.size=n
class BlockLt (b:Nat) (w:World):Prop where
 lt:b<w.heap.size
section
variable {w:World} {b n:Nat}
instance (priority:=low):SizeIs w w.heap.size:=⟨rfl⟩
instance {o:Obj} [h:SizeIs w n]:SizeIs (w.alloc o) (n+1):=⟨by simp[h.eq]⟩
instance {p:Behind} [h:SizeIs w n]:SizeIs (w.junk p) (n+p.len):=⟨by simp[World.size_junk0,h.eq]⟩
instance {a:Addr} {v:Value} [h:SizeIs w n]:SizeIs (w.setCell a v) n:=⟨by simp[h.eq]⟩
instance [h:SizeIs w n]:SizeIs w.drew n:=⟨by simp[h.eq]⟩
instance (priority:=low) {o:Obj} [h:SizeIs w n]:BlockLt n (w.alloc o):=⟨by simp[h.eq]⟩
instance {o:Obj} [h:BlockLt b w]:BlockLt b (w.alloc o):=⟨by have:=h.lt;simp;omega⟩
instance {p:Behind} [h:BlockLt b w]:BlockLt b (w.junk p):=⟨by have:=h.lt;simp[World.size_junk0];omega⟩
instance {a:Addr} {v:Value} [h:BlockLt b w]:BlockLt b (w.setCell a v):=⟨by have:=h.lt;simpa using this⟩
instance [h:BlockLt b w]:BlockLt b w.drew:=⟨by have:=h.lt;simpa using this⟩
end
section
variable (w:World) (p:Behind) {b o:Nat}
@[go_sem, simp] theorem World.size_junk : (w.junk p).heap.size = w.heap.size + p.len := World.size_junk0 w p
@[go_sem] theorem World.cell?_junk [h : BlockLt b w] : (w.junk p).cell? ⟨b, o, none⟩ = w.cell? ⟨b, o, none⟩ := by unfold World.cell?;simp only;rw[World.heap_junk w p h.lt]
@[go_sem] theorem World.frozen?_junk [h : BlockLt b w] : (w.junk p).frozen? ⟨b, o, none⟩ = w.frozen? ⟨b, o, none⟩ := by unfold World.frozen?;simp only;rw[World.heap_junk w p h.lt]
@[go_sem] theorem World.cell?_alloc_i (x : Obj) [h : BlockLt b w] : (w.alloc x).cell? ⟨b, o, none⟩ = w.cell? ⟨b, o, none⟩ := World.cell?_alloc_lt w x ⟨b, o, none⟩ h.lt
@[go_sem] theorem World.frozen?_alloc_i (x : Obj) [h : BlockLt b w] : (w.alloc x).frozen? ⟨b, o, none⟩ = w.frozen? ⟨b, o, none⟩ :=
 World.frozen?_alloc_old w x ⟨b,o,none⟩ (Nat.ne_of_lt h.lt)
@[go_sem] theorem World.setCell_alloc_i (x : Obj) (v : Value) [h : BlockLt b w] : (w.alloc x).setCell ⟨b, o, none⟩ v = (w.setCell ⟨b, o, none⟩ v).alloc x := World.setCell_alloc_past x b o v h.lt
@[go_sem] theorem World.setCell_junk (v : Value) [h : BlockLt b w] : (w.junk p).setCell ⟨b, o, none⟩ v = (w.setCell ⟨b, o, none⟩ v).junk p := by
 have h:=h.lt;unfold World.setCell World.junk;congr 1;apply Array.ext_getElem?;intro k;simp only[Array.getElem?_modify,Array.getElem?_append,Array.size_modify];by_cases hk:b=k
 .subst hk;simp[h]
 simp[hk]
@[go_sem] theorem World.drew_junk : (w.junk p).drew = w.junk p.drew := rfl
@[go_sem, simp] theorem World.tape_junk : (w.junk p).tape = w.tape := rfl
@[go_sem] theorem World.junk_junk (q : Behind) : (w.junk p).junk q = w.junk (p.more q) := by simp [World.junk, Behind.more]
end
theorem sA {α:Type _} (l:List α) (i:Nat) (a:α):l.toArray.setIfInBounds i a=(l.set i a).toArray:=List.setIfInBounds_toArray l i a
theorem sZ {α:Type _} {x:α} {xs:List α} {a:α}:(x::xs).set 0 a=a::xs:=List.set_cons_zero
theorem sS {α:Type _} {x:α} {xs:List α} {i:Nat} {a:α}:(x::xs).set (i+1) a=x::xs.set i a:=List.set_cons_succ
theorem gE {α:Type _} {l:List α} {i:Nat} (h:i<l.length):l[i]? =some l[i]:=List.getElem?_eq_getElem h
theorem gAA {α:Type _} {l:List α} {i:Nat} (h:i<l.length):∃x,l[i]? =some x:=⟨_,gE h⟩
theorem gAB {α:Type _} (x:α):∃y,x=y:=⟨_,rfl⟩
theorem lM {α:Type _} {β:Type _} {xs:List α} (f:α->β):(List.map f xs).length=xs.length:=List.length_map f
theorem gI {α:Type _} {i:Nat} {a:α} {l:List α}:l[i]? =some a↔∃h,l[i]=a:=List.getElem?_eq_some_iff
theorem gM {α:Type _} {β:Type _} {f:α->β} {l:List α} {i:Nat}:(List.map f l)[i]? =Option.map f l[i]? :=List.getElem?_map
theorem mG {α:Type _} {l:List α} {i:Nat} {a:α} (h:l[i]? =some a):a∈l:=List.mem_of_getElem? h
theorem lP {α:Type _} {xs ys:List α}:(xs++ys).length=xs.length+ys.length:=List.length_append
theorem zA:type_of% @if_neg:=@if_neg
theorem zB:type_of% @if_pos:=@if_pos
theorem zC:type_of% @Nat.le_refl:=@Nat.le_refl
theorem zD:type_of% @Nat.le_trans:=@Nat.le_trans
theorem zE:type_of% @Bool.and_eq_true:=@Bool.and_eq_true
theorem zF:type_of% @Option.some.injEq:=@Option.some.injEq
theorem zG:type_of% @List.getD_eq_getElem?_getD:=@List.getD_eq_getElem?_getD
theorem zH:type_of% @List.getElem?_cons_zero:=@List.getElem?_cons_zero
theorem zI:type_of% @decide_eq_true_eq:=@decide_eq_true_eq
theorem zJ:type_of% @Int.toNat_natCast:=@Int.toNat_natCast
theorem zK:type_of% @List.length_cons:=@List.length_cons
theorem zL:type_of% @List.mem_cons_of_mem:=@List.mem_cons_of_mem
theorem zM:type_of% @Nat.zero_add:=@Nat.zero_add
theorem zN:type_of% @Nat.add_zero:=@Nat.add_zero
theorem zO:type_of% @Value.slice.injEq:=@Value.slice.injEq
theorem zP:type_of% @Bool.false_eq_true:=@Bool.false_eq_true
theorem zQ:type_of% @List.mem_cons_self:=@List.mem_cons_self
theorem zR:type_of% @Nat.lt_of_lt_of_le:=@Nat.lt_of_lt_of_le
theorem zS:type_of% @List.drop_of_length_le:=@List.drop_of_length_le
theorem zT:type_of% @List.eq_nil_of_length_eq_zero:=@List.eq_nil_of_length_eq_zero
theorem zU:type_of% @List.length_take:=@List.length_take
theorem zV:type_of% @List.getElem?_cons_succ:=@List.getElem?_cons_succ
theorem zW:type_of% @ByteArray.toList_eq:=@ByteArray.toList_eq
theorem zX:type_of% @List.getElem?_set_ne:=@List.getElem?_set_ne
theorem zY:type_of% @List.getElem?_set_self:=@List.getElem?_set_self
theorem zZ:type_of% @List.getElem?_append_left:=@List.getElem?_append_left
theorem yA:type_of% @Array.getElem?_eq_getElem:=@Array.getElem?_eq_getElem
theorem yB:type_of% @List.length_set:=@List.length_set
theorem yC:type_of% @List.getElem?_append_right:=@List.getElem?_append_right
theorem yD:type_of% @List.getElem?_toArray:=@List.getElem?_toArray
theorem yE:type_of% @Array.getElem?_setIfInBounds:=@Array.getElem?_setIfInBounds
theorem yF:type_of% @beq_eq_false_iff_ne:=@beq_eq_false_iff_ne
theorem yG:type_of% @Addr.mk.injEq:=@Addr.mk.injEq
theorem yH:type_of% @List.drop_eq_getElem_cons:=@List.drop_eq_getElem_cons
theorem yI:type_of% @Bool.or_eq_true:=@Bool.or_eq_true
theorem yJ:type_of% @Bool.false_and:=@Bool.false_and
theorem yK:type_of% @List.length_drop:=@List.length_drop
theorem yL:type_of% @Bool.not_eq_true':=@Bool.not_eq_true'
theorem yM:type_of% @decide_eq_false:=@decide_eq_false
theorem yN:type_of% @List.getElem?_drop:=@List.getElem?_drop
theorem yO:type_of% @List.getElem?_take:=@List.getElem?_take
theorem yP:type_of% @List.length_replicate:=@List.length_replicate
theorem yQ:type_of% @List.getElem?_replicate:=@List.getElem?_replicate
theorem yR:type_of% @List.mem_append:=@List.mem_append
theorem yS:type_of% @List.map_append:=@List.map_append
theorem yU:type_of% @List.append_assoc:=@List.append_assoc
theorem yV:type_of% @Bool.or_eq_false_iff:=@Bool.or_eq_false_iff
theorem yW:type_of% @decide_eq_false_iff_not:=@decide_eq_false_iff_not
theorem yX:type_of% @List.length_nil:=@List.length_nil
theorem yY:type_of% @List.all_eq_true:=@List.all_eq_true
theorem yZ:type_of% @List.mem_singleton:=@List.mem_singleton
theorem xA:type_of% @ByteArray.size_append:=@ByteArray.size_append
theorem xB:type_of% @List.map_cons:=@List.map_cons
theorem xC:type_of% @Bool.true_and:=@Bool.true_and
theorem xD:type_of% @bodyPost_ret:=@bodyPost_ret
theorem xE:type_of% @bodyPost_end:=@bodyPost_end
namespace RowKit
theorem Below.rest {w w':World} (h:Below w.heap.size w w'):∃p:Behind,w'=w.junk p:=by
 refine⟨⟨w'.heap.extract w.heap.size w'.heap.size,w'.drawn⟩,?_⟩;obtain⟨ho,ht,hp,hs,hb⟩:=h;cases w' with|mk heap' tape' drawn' os' output'=>
 cases w with|mk heap tape drawn os output=>
 simp only at ho ht hp hs hb |-;subst ho;subst ht;subst hp;simp only[World.junk,World.mk.injEq,and_true];apply Array.ext_getElem?;intro k;by_cases hk:k<heap.size
 .rw[hb k hk,Array.getElem?_append_left hk]
 rw[Array.getElem?_append_right (by omega),Array.getElem?_extract];by_cases hk':k<heap'.size
 .rw[if_pos (by simp;omega)];congr 1;omega
 rw[if_neg (by simp;omega)];exact Array.getElem?_eq_none (by omega)
theorem gT (B:Nat) (a w:World) (p:Behind) (h:Below B a w) (hB:B<=w.heap.size):Below B a (w.junk p):=
 h.trans ⟨rfl,rfl,rfl,by simp,λk hk=>World.heap_junk w p (by omega)⟩
theorem aBF (w:World) (p:Behind):Below w.heap.size w (w.junk p):=gT _ _ _ _ (Below.refl _ _) (Nat.le_refl _)
theorem bY {P:Program} {id:Nat} {Q:Exit->Act->World->Prop} {a:Act} {w:World} {l:List Oper} (hm:P.follows .mixedOrders=true) (hB:Region.lexB .any l.toArray=true)
 (h:wpQuiet P l.toArray (λw'=>∃p:Behind,w'=w.junk p) (λa'=>∀w',(∃p:Behind,w'=w.junk p)->Q .normal a' w') l a):(Code.region id l.toArray true).wp P Q a w:=
 wp_region_quiet (C:=λw'=>∃p:Behind,w'=w.junk p) hm hB ⟨⟨#[],w.drawn+1⟩,by simp[World.junk]⟩ (by simpa using h)
theorem qR {P:Program} {id:Nat} {Q:Exit->Act->World->Prop} {a:Act} {w:World} {l:List Oper} (h:wpQuiet P l.toArray (λw'=>∃p:Behind,w'=w.junk p) (λa'=>∀w',(∃p:Behind,w'=w.junk p)->Q .normal a' w') l a) (hm:P.follows .mixedOrders=true:=by kernel_rfl) (hB:Region.lexB .any l.toArray=true:=by kernel_rfl):(Code.region id l.toArray true).wp P Q a w:=bY hm hB h
abbrev vR (w:World) (f:FuncId) (args:Array Value) (v:Value):Prop:=Calls Go.Proofs.Tryz.prog f args w λe w'=>e=.returned v/\Below w.heap.size w w'
abbrev vB (w:World) (f:FuncId) (args:Array Value) (v:Value):Prop:=∀ww,Below w.heap.size w ww->Calls Go.Proofs.Tryz.prog f args ww λe w'=>e=.returned v/\Below ww.heap.size ww w'
theorem aC {p:Prop} (h:p):RowKit.Hid p:=h
theorem bJ {p0 p1:Prop} (a:p0) (b:p1):RowKit.Hid (p0/\p1):=⟨a,b⟩
theorem eH {p0 p1 p2:Prop} (a:p0) (b:p1) (c:p2):RowKit.Hid (p0/\p1/\p2):=⟨a,b,c⟩
theorem mJ {p0 p1 p2 p3:Prop} (a:p0) (b:p1) (c:p2) (d:p3):RowKit.Hid (p0/\p1/\p2/\p3):=⟨a,b,c,d⟩
theorem qM {p0 p1 p2 p3 p4:Prop} (a:p0) (b:p1) (c:p2) (d:p3) (e:p4):RowKit.Hid (p0/\p1/\p2/\p3/\p4):=⟨a,b,c,d,e⟩
theorem jj6 {p0 p1 p2 p3 p4 p5:Prop} (a:p0) (b:p1) (c:p2) (d:p3) (e:p4) (f:p5):RowKit.Hid (p0/\p1/\p2/\p3/\p4/\p5):=⟨a,b,c,d,e,f⟩
theorem jj7 {p0 p1 p2 p3 p4 p5 p6:Prop} (a:p0) (b:p1) (c:p2) (d:p3) (e:p4) (f:p5) (g:p6):RowKit.Hid (p0/\p1/\p2/\p3/\p4/\p5/\p6):=⟨a,b,c,d,e,f,g⟩
theorem jj8 {p0 p1 p2 p3 p4 p5 p6 p7:Prop} (a:p0) (b:p1) (c:p2) (d:p3) (e:p4) (f:p5) (g:p6) (h:p7):RowKit.Hid (p0/\p1/\p2/\p3/\p4/\p5/\p6/\p7):=⟨a,b,c,d,e,f,g,h⟩
theorem jj9 {p0 p1 p2 p3 p4 p5 p6 p7 p8:Prop} (a:p0) (b:p1) (c:p2) (d:p3) (e:p4) (f:p5) (g:p6) (h:p7) (i:p8):RowKit.Hid (p0/\p1/\p2/\p3/\p4/\p5/\p6/\p7/\p8):=⟨a,b,c,d,e,f,g,h,i⟩
theorem aGA {P:Program} {f:FuncId} {args:Array Value} {w:World} {v:Value} {C:World->Prop}
 (h:Calls P f args w λe w'=>e=.returned v/\Below w.heap.size w w') (hC:∀w',Below w.heap.size w w'->C w'):Calls P f args w λe w''=>e=.returned v/\C w'':=
 h.mono λ_ _ ⟨he,hb⟩=>⟨he,hC _ hb⟩
theorem nl {a b:Nat} {p:Prop} (h:a=b\/p) (hn:¬a=b:=by decide):p:=h.resolve_left hn

theorem QN {P:Program} {ops:Array Oper} {F:Behind->World} {R:Act->World->Prop} {a:Act} (h:∀p,R a (F p)):wpQuiet P ops (λw'=>∃p,w'=F p) (λa=>∀w1,(∃p,w1=F p)->R a w1) [] a:=wpQuiet_nil (λw1 ⟨p,e⟩=>by subst e;exact h p)
theorem aE {P:Program} {f:FuncId} {args:Array Value} {w:World} {E:Ending} {K:Ending->World->Prop} (h:Calls P f args w λe w'=>e=E/\Below w.heap.size w w') (k:∀p:Behind,K E (w.junk p)):Calls P f args w K:=h.mono λe w' ⟨he,hb⟩=>by obtain⟨p,rfl⟩:=hb.rest;subst he;exact k p
theorem aT {P:Program} {f:FuncId} {args:Array Value} {w:World} {v:Value} {K:Ending->World->Prop} (h:Calls P f args w λe w'=>e=.returned v/\Below w.heap.size w w') (k:∀p:Behind,K (.returned v) (w.junk p)):Calls P f args w K:=h.mono λe w' ⟨he,hb⟩=>by obtain⟨p,rfl⟩:=hb.rest;subst he;exact k p
theorem bAR {w w':World} {q:Behind} (hb:Below (w.junk q).heap.size (w.junk q) w'):∃p:Behind,w'=w.junk p:=
 ((aBF w q).trans (hb.mono (by simp))).rest
theorem bAS {w w':World} {A q:Behind} (hb:Below (w.junk (A.more q)).heap.size (w.junk (A.more q)) w'):∃p:Behind,w'=w.junk (A.more p):=by rw[<-World.junk_junk]at hb;obtain⟨p,hp⟩:=bAR hb;exact⟨p,by rw[hp,World.junk_junk]⟩
class Bel (a w:World):Prop where
 below:Below a.heap.size a w
section
variable {a w:World}
instance:Bel a a:=⟨Below.refl _ _⟩
instance {o:Obj} [h:Bel a w]:Bel a (w.alloc o):=⟨h.below.alloc h.below.size o⟩
instance {q:Behind} [h:Bel a w]:Bel a (w.junk q):=⟨gT _ _ _ _ h.below h.below.size⟩
instance [h:Bel a w]:Bel a w.drew:=⟨h.below.drew⟩
theorem bel (a w:World) [h:Bel a w]:Below a.heap.size a w:=h.below
theorem gAC {α:Type _} {a:α} {w w0:World} [Bel w w0]:a=a/\Below w.heap.size w w0:=⟨rfl,bel _ _⟩
theorem cI {P:Program} {f:FuncId} {args:Array Value} {w w1:World} {v:Value} [b:Bel w w1] (h:Calls P f args w1 λe w'=>e=.returned v/\Below w1.heap.size w1 w'):Calls P f args w1 λe w''=>e=.returned v/\∃p:Behind,w''=w.junk p:=
  aGA h λ_ hb=>(b.below.trans (hb.mono b.below.size)).rest
theorem cJ {P:Program} {f:FuncId} {args:Array Value} {w:World} {A q:Behind} {v:Value} (h:Calls P f args (w.junk (A.more q)) λe w'=>e=.returned v/\Below (w.junk (A.more q)).heap.size (w.junk (A.more q)) w'):Calls P f args (w.junk (A.more q)) λe w''=>e=.returned v/\∃p:Behind,w''=w.junk (A.more p):=
  aGA h λ_ hb=>bAS hb
end
end RowKit
end Go

namespace Go
abbrev Bl (w w':World):Prop:=RowKit.Below w.heap.size w w'
end Go
namespace Go.RowKit
theorem gB (n:Int) (m:Nat) (k:Nat) (hk:(BitVec.ofInt 64 (m:Int)).toNat=2 ^ k-1) (h2:k<63):bits .and .i64 n m=n%(2 ^ k:Nat):=by
 have key:(BitVec.ofInt 64 n &&& BitVec.ofInt 64 (m:Int)).toNat=(n%((2 ^ 64:Nat):Int)).toNat%2 ^ k:=by rw[BitVec.toNat_and,BitVec.toNat_ofInt,hk,Nat.and_two_pow_sub_one_eq_mod]
 have a0:0<2 ^ k:=Nat.two_pow_pos k;have a2:2 ^ k<=2 ^ 62:=Nat.pow_le_pow_right (by omega) (by omega);have a1:(n%((2 ^ 64:Nat):Int)).toNat%2 ^ k<2 ^ k:=Nat.mod_lt _ a0;show IntKind.i64.wrap ((BitVec.ofInt 64 n &&& BitVec.ofInt 64 (m:Int)).toNat:Nat)=n%(2 ^ k:Nat);rw[key,IntKind.wrap_i64];have e:(((n%((2 ^ 64:Nat):Int)).toNat%2 ^ k:Nat):Int)=n%(2 ^ k:Nat):=by rw[Int.natCast_emod,Int.toNat_of_nonneg (Int.emod_nonneg _ (by decide))];exact Int.emod_emod_of_dvd n (Int.natCast_dvd_natCast.2 (Nat.pow_dvd_pow 2 (by omega)))
 omega
@[go_sem] theorem bAT (n : Int) : bits .and .i64 n 1 = n % 2 := gB n 1 1 (by decide) (by omega)
@[go_sem] theorem bAU (n : Int) : bits .and .i64 n 3 = n % 4 := gB n 3 2 (by decide) (by omega)
@[go_sem] theorem bAV (n : Int) : bits .and .i64 n 7 = n % 8 := gB n 7 3 (by decide) (by omega)
@[go_sem] theorem aZW (n : Int) : bits .and .i64 n 15 = n % 16 := gB n 15 4 (by decide) (by omega)
@[go_sem] theorem aZX (n : Int) : bits .and .i64 n 63 = n % 64 := gB n 63 6 (by decide) (by omega)
@[go_sem] theorem aYO (n : Int) : bits .and .i64 n 255 = n % 256 := gB n 255 8 (by decide) (by omega)
class BlockGe (b:Nat) (a:World):Prop where
 ge:a.heap.size<=b
section
variable {a w:World} {b n:Nat}
instance:BlockGe a.heap.size a:=⟨zC _⟩
instance [h:BlockGe n a]:BlockGe (n+b) a:=⟨by have:=h.ge;omega⟩
instance {i:Nat} {s:Option Nat} {v:Value} [h:Bel a w] [h2:BlockGe b a]:Bel a (w.setCell ⟨b,i,s⟩ v):=⟨h.below.setCell h2.ge v⟩
end
end Go.RowKit
namespace Go
def Blk (w:World) (b:Nat) (c:Array Value) (t:TypeId):Prop:=w.heap[b]? =some (.cells c t (0,0))
namespace Blk
variable {w w':World} {b b' i:Nat} {c c':Array Value} {t t':TypeId} {v:Value}
theorem lt (h:Blk w b c t):BlockLt b w:=⟨by
 rcases Nat.lt_or_ge b w.heap.size with hlt|hge
 .exact hlt
 unfold Blk at h;rw[Array.getElem?_eq_none hge]at h;cases h⟩
theorem cell (h:Blk w b c t) (i:Nat):w.cell? ⟨b,i,none⟩=c[i]? :=cell_of_row w b i c t (0,0) h
theorem frozen (h:Blk w b c t) (i:Nat):w.frozen? ⟨b,i,none⟩=false:=by unfold Blk at h;simp[World.frozen?,h]
theorem new (w:World) (c:Array Value) (t:TypeId):Blk (w.alloc (.cells c t)) w.heap.size c t:=heap_alloc_new w _
theorem new_i (w:World) (c:Array Value) (t:TypeId) (n:Nat) [h:SizeIs w n]:Blk (w.alloc (.cells c t)) n c t:=by rw[<-h.eq];exact new w c t
theorem alloc (h:Blk w b c t) (o:Obj):Blk (w.alloc o) b c t:=(RowKit.Below.heap_alloc w o b h.lt.lt).trans h
theorem junk (h:Blk w b c t) (p:Behind):Blk (w.junk p) b c t:=(World.heap_junk w p h.lt.lt).trans h
theorem drew (h:Blk w b c t):Blk w.drew b c t:=h
theorem set_ (h:Blk w b c t) (i:Nat) (v:Value):Blk (w.setCell ⟨b,i,none⟩ v) b (c.setIfInBounds i v) t:=by unfold Blk at h |-;simp[World.setCell,Array.getElem?_modify,h]
theorem far (h:Blk w b c t) {a:Addr} (hne:b≠a.block) (v:Value):Blk (w.setCell a v) b c t:=(RowKit.Below.heap_setCell w a v b hne).trans h
theorem below {B:Nat} (h:Blk w b c t) (hb:RowKit.Below B w w') (hlt:b<B):Blk w' b c t:=(hb.block b hlt).trans h
theorem ne_ (h:Blk w b c t) (h':Blk w b' c' t') (hne:t≠t'):b≠b':=by rintro rfl;unfold Blk at h h';rw[h]at h';injection h' with h';injection h' with _ ht;exact hne ht
theorem inj (h:Blk w b c t) (h':Blk w b c' t'):c=c':=by unfold Blk at h h';rw[h]at h';injection h' with h';injection h' with hc _
end Blk
structure Keep (S:Nat->Prop) (w w':World):Prop where
 os:w'.os=w.os
 tape:w'.tape=w.tape
 output:w'.output=w.output
 size:w.heap.size<=w'.heap.size
 block:∀k,k<w.heap.size->¬S k->w'.heap[k]? =w.heap[k]?
namespace Keep
variable {S S':Nat->Prop} {a w w' w'':World}
theorem refl (S:Nat->Prop) (w:World):Keep S w w:=⟨rfl,rfl,rfl,zC _,λ_ _ _=>rfl⟩
theorem trans (h:Keep S w w') (k:Keep S' w' w'') (hS:∀i,i<w.heap.size->S' i->S i):Keep S w w'':=
 ⟨k.os.trans h.os,k.tape.trans h.tape,k.output.trans h.output,zD h.size k.size,λi hi hn=>(k.block i (zR hi h.size) (λh'=>hn (hS i hi h'))).trans (h.block i hi hn)⟩
theorem mono (h:Keep S w w') (hS:∀i,i<w.heap.size->S i->S' i):Keep S' w w':=⟨h.os,h.tape,h.output,h.size,λi hi hn=>h.block i hi (λh'=>hn (hS i hi h'))⟩
theorem of_below (h:Bl w w') (S:Nat->Prop):Keep S w w':=⟨h.os,h.tape,h.output,h.size,λi hi _=>h.block i hi⟩
theorem below {B:Nat} (h:Keep S w w') (hB:B<=w.heap.size) (hS:∀i,i<B->¬S i):RowKit.Below B w w':=⟨h.os,h.tape,h.output,h.size,λi hi=>h.block i (by omega) (hS i hi)⟩
theorem alloc (h:Keep S a w) (o:Obj):Keep S a (w.alloc o):=
 ⟨h.os,h.tape,h.output,zD h.size (by simp),λi hi hn=>(RowKit.Below.heap_alloc w o i (zR hi h.size)).trans (h.block i hi hn)⟩
theorem junk (h:Keep S a w) (p:Behind):Keep S a (w.junk p):=
 ⟨h.os,h.tape,h.output,zD h.size (by simp),λi hi hn=>(World.heap_junk w p (zR hi h.size)).trans (h.block i hi hn)⟩
theorem drew (h:Keep S a w):Keep S a w.drew:=⟨h.os,h.tape,h.output,h.size,h.block⟩
theorem setCell (h:Keep S a w) {p:Addr} (hp:S p.block\/a.heap.size<=p.block) (v:Value):Keep S a (w.setCell p v):=
 ⟨h.os,h.tape,h.output,by simpa[World.setCell]using h.size,λi hi hn=>(RowKit.Below.heap_setCell w p v i (by
  rintro rfl;rcases hp with hp|hp
  .exact hn hp
  omega)).trans (h.block i hi hn)⟩
theorem grown (h:Keep S a w) {row:Option Nat} (hg:w.grownBy w' row) (hr:∀k,row=some k->S k\/a.heap.size<=k):Keep S a w':=
 ⟨hg.os.trans h.os,hg.tape.trans h.tape,hg.output.trans h.output,zD h.size hg.size,λi hi hn=>(hg.block i (zR hi h.size) (λe=>by
  rcases hr i e.symm with h'|h'
  .exact hn h'
  omega)).trans (h.block i hi hn)⟩
theorem blk (h:Keep S w w') {b:Nat} {c:Array Value} {t:TypeId} (hb:Blk w b c t) (hn:¬S b):Blk w' b c t:=(h.block b hb.lt.lt hn).trans hb
theorem own (h:Keep S w w') {base:Nat} {e:TypeId} {size n:Nat} {v:Value} {xs:List Value} (hv:w.ownsRow base e size v n xs) (hn:∀k,v.ownBlock=some k->¬S k):w'.ownsRow base e size v n xs:=by
 refine⟨hv.1,?_⟩;rcases hv.2 with h0|⟨g,cap,cur,rfl,hb,hg,r⟩
 .exact .inl h0
 exact .inr ⟨g,cap,cur,rfl,hb,(h.block g (Array.getElem?_eq_some_iff.1 hg).1 (hn g (by simp[Value.ownBlock]))).trans hg,r⟩
theorem lt (h:Keep S w w') {b:Nat} (hb:BlockLt b w):BlockLt b w':=⟨zR hb.lt h.size⟩
end Keep
theorem oZ {w:World} {base:Nat} {e:TypeId} {size n:Nat} {v:Value} {xs:List Value} (h:w.ownsRow base e size v n xs):∃a cp,v=.slice a n cp:=by
 rcases h.2 with⟨rfl,rfl⟩|⟨g',cap,cur,rfl,_⟩
 .exact⟨_,_,rfl⟩
 exact⟨_,_,rfl⟩
theorem aOE (b j:Nat):(⟨b,0,none⟩:Addr).add j=⟨b,j,none⟩:=by unfold Addr.add;split<;>simp_all
theorem aSK (w:World) (l:List Value) (t:TypeId) (n:Nat) [h:SizeIs w n]:∀j u,l[j]? =some u->(w.alloc (.cells l.toArray t)).cell? ((⟨n,0,none⟩:Addr).add j)=some u:=by intro j u hu;rw[aOE,(Blk.new_i w l.toArray t n).cell j];simpa using hu
theorem gR {w:World} {b:Nat} {x y z:Value} {t:TypeId} (h:Blk w b #[x,y,z] t):BlockLt b w/\w.cell? b=some x/\w.cell? ⟨b,1,none⟩=some y/\w.cell? ⟨b,2,none⟩=some z:=⟨h.lt,h.cell 0,h.cell 1,h.cell 2⟩
theorem bx4 {w:World} {b:Nat} {x0 x1 x2 x3:Value} {t:TypeId} (h:Blk w b #[x0,x1,x2,x3] t):BlockLt b w/\w.cell? b=some x0/\w.cell? ⟨b,1,none⟩=some x1/\w.cell? ⟨b,2,none⟩=some x2/\w.cell? ⟨b,3,none⟩=some x3:=⟨h.lt,h.cell 0,h.cell 1,h.cell 2,h.cell 3⟩
theorem bx6 {w:World} {b:Nat} {x0 x1 x2 x3 x4 x5:Value} {t:TypeId} (h:Blk w b #[x0,x1,x2,x3,x4,x5] t):BlockLt b w/\w.cell? b=some x0/\w.cell? ⟨b,1,none⟩=some x1/\w.cell? ⟨b,2,none⟩=some x2/\w.cell? ⟨b,3,none⟩=some x3/\w.cell? ⟨b,4,none⟩=some x4/\w.cell? ⟨b,5,none⟩=some x5:=⟨h.lt,h.cell 0,h.cell 1,h.cell 2,h.cell 3,h.cell 4,h.cell 5⟩
theorem bx8 {w:World} {b:Nat} {x0 x1 x2 x3 x4 x5 x6 x7:Value} {t:TypeId} (h:Blk w b #[x0,x1,x2,x3,x4,x5,x6,x7] t):BlockLt b w/\w.cell? b=some x0/\w.cell? ⟨b,1,none⟩=some x1/\w.cell? ⟨b,2,none⟩=some x2/\w.cell? ⟨b,3,none⟩=some x3/\w.cell? ⟨b,4,none⟩=some x4/\w.cell? ⟨b,5,none⟩=some x5/\w.cell? ⟨b,6,none⟩=some x6/\w.cell? ⟨b,7,none⟩=some x7:=⟨h.lt,h.cell 0,h.cell 1,h.cell 2,h.cell 3,h.cell 4,h.cell 5,h.cell 6,h.cell 7⟩
end Go
namespace Go
section
variable {P:Program} {ops:Array Oper} {S:World->Prop} {E:List Nat} {lx:Bool}
def Oper.eff (P:Program) (o:Oper) (a:Act) (w:World) (K:Value->World->Prop):Prop:=
 match(execOp a.eval o).run P w with
 |.ok (.value v) w'=>K v w'
 |.ok .skip w'=>K undef w'
 |.ok (.enter f args) w'=>Calls P f args w' (λe w''=>∃v,e=.returned v/\K v w'')
 |_=>False
theorem Oper.eff_mono {o:Oper} {a:Act} {w:World} {K K':Value->World->Prop} (h:o.eff P a w K) (hk:∀v w',K v w'->K' v w'):o.eff P a w K':=by
 unfold Oper.eff at *;split<;>simp_all
 rename_i h1;exact h.mono λe w'' ⟨v,he,hv⟩=>⟨v,he,hk _ _ hv⟩
theorem Oper.eff_some {o:Oper} {a:Act} {w:World} {K:Value->World->Prop} (h:o.eff P a w K):∃v w',K v w':=by
 unfold Oper.eff at h;split at h
 .exact⟨_,_,h⟩
 .exact⟨_,_,h⟩
 .obtain⟨e,w',_,⟨v,_,hk⟩,_⟩:=h [];exact⟨v,w',hk⟩
 exact h.elim
theorem Oper.eff_same {o:Oper} {a a':Act} {w:World} {K:Value->World->Prop} (h:o.eff P a w K) (he:execOp a'.eval o=execOp a.eval o):o.eff P a' w K:=by unfold Oper.eff at *;rw[he];exact h
theorem Oper.wp_of_eff {o:Oper} {a:Act} {w:World} {K:Value->World->Prop} {K':Act->World->Prop} {Q:Exit->Act->World->Prop} (h:o.eff P a w K) (hk:∀v w',K v w'->K' (a.put o.dst v) w'):o.wp P a w K' Q:=by
 unfold Oper.eff at h;unfold Oper.wp;generalize(execOp a.eval o).run P w=r at *;cases r with
 | ok n w'=>
   cases n<;>simp only[Oper.upon]at h |-<;>first|exact hk _ _ h|exact h.elim|skip
   exact h.mono λe w'' ⟨v,he,hv⟩=>by subst he;exact hk _ _ hv
 |halt x w'=>exact h.elim
def YieldsS (P:Program) (ops:Array Oper) (S:World->Prop) (o:Oper) (v:Value) (a:Act):Prop:=
 (Region.wanted o (yielded ops a.tmps)=true/\∀w,S w->(execOp a.eval o).run P w=.ok (.value v) w)\/
 (Region.wanted o (yielded ops a.tmps)=false/\v=undef)
theorem YieldsS.same {o:Oper} {v:Value} {a a':Act} (hy:YieldsS P ops S o v a) (he:execOp a'.eval o=execOp a.eval o)
 (hw:Region.wanted o (yielded ops a'.tmps)=Region.wanted o (yielded ops a.tmps)):YieldsS P ops S o v a':=by
 unfold YieldsS at *;rw[he,hw];exact hy
theorem YieldsS.one {o:Oper} {v v':Value} {a:Act} {w:World} (hS:S w) (h:YieldsS P ops S o v a) (h':YieldsS P ops S o v' a):v=v':=by
 rcases h with⟨hw,h⟩|⟨hw,rfl⟩<;>rcases h' with⟨hw',h'⟩|⟨hw',rfl⟩
 .have:=(h w hS).symm.trans (h' w hS);simpa using this
 .rw[hw]at hw';cases hw'
 .rw[hw]at hw';cases hw'
 rfl
def wpE (P:Program) (ops:Array Oper) (S:World->Prop) (E:List Nat) (lx:Bool) (Q:Act->World->Prop):List Nat->Act->World->Prop
 |[],a,w=>Q a w
 | i ::rest,a,w=>
   match ops[i]? with
   |none=>False
   | some o=>
     if E.contains i=true/\Region.wanted o (yielded ops a.tmps)=true then
      o.eff P a w λv w'=>(S w'\/(lx=true/\i+1=ops.size))/\wpE P ops S E lx Q rest (a.put o.dst v) w'
     else ∃v,YieldsS P ops S o v a/\wpE P ops S E lx Q rest (a.put o.dst v) w
theorem gU {x y:Oper} (h:x.apart ops y=true) (hx:∀cs b,x.op≠.select cs b) (a:Act) (v:Value):
 execOp (a.put y.dst v).eval x=execOp a.eval x/\Region.wanted x (yielded ops (a.put y.dst v).tmps)=Region.wanted x (yielded ops a.tmps):=by
 obtain⟨_,_,h3⟩:=Oper.apart_spec h;exact⟨execOp_put x hx a y.dst v h3,wanted_put x a y.dst v h3⟩
theorem eR {x y:Oper} (h:x.apart ops y=true) (hy:∀cs b,y.op≠.select cs b) (a:Act) (v:Value):
 execOp (a.put x.dst v).eval y=execOp a.eval y/\Region.wanted y (yielded ops (a.put x.dst v).tmps)=Region.wanted y (yielded ops a.tmps):=by
 obtain⟨h1,_,_⟩:=Oper.apart_spec h;exact⟨execOp_put y hy a x.dst v h1,wanted_put y a x.dst v h1⟩
variable {Q:Act->World->Prop}
theorem pW (hsel:∀(j:Nat) (o:Oper) cs b,ops[j]? =some o->o.op≠.select cs b) {q:Nat} {oq:Oper} (hq:ops[q]? =some oq) (l2:List Nat):
 ∀(l1:List Nat) (a:Act) (w:World),S w->(∀k∈l1,k+1≠ops.size/\∀ok,ops[k]? =some ok->ok.apart ops oq=true)->
  (E.contains q=false\/Region.wanted oq (yielded ops a.tmps)=false)->
  wpE P ops S E lx Q (l1++q::l2) a w->∃v,YieldsS P ops S oq v a/\wpE P ops S E lx Q (l1++l2) (a.put oq.dst v) w
 | [],a,w,_,_,hne,h=>by simp only[List.nil_append,wpE,hq]at h;rw[zA (by rintro⟨h1,h2⟩;rcases hne with hne|hne<;>simp_all)]at h;exact h
 | k ::l1,a,w,hS,hl,hne,h=>by
   simp only[List.cons_append,wpE]at h |-;obtain⟨hk1,hk2⟩:=hl k (zQ);cases hk:ops[k]? with
   |none=>rw[hk]at h;exact h.elim
   | some ok=>
     rw[hk]at h;have a0:=hk2 ok hk;have a6:∀k∈l1,k+1≠ops.size/\∀ok,ops[k]? =some ok->ok.apart ops oq=true:=λj hj=>hl j (zL _ hj);have a4:=λcs b=>hsel k ok cs b hk;have a1:=λcs b=>hsel q oq cs b hq;have a2:∀u,E.contains q=false\/Region.wanted oq (yielded ops (a.put ok.dst u).tmps)=false:=λu=>by rw[(eR a0 a1 a u).2];exact hne
     simp only at h |-;split at h
     .rename_i hc
      obtain⟨v0,w0,hS0,h0⟩:=Oper.eff_some h;have a7:S w0:=hS0.resolve_right (λe=>hk1 e.2);obtain⟨v,hv,_⟩:=pW hsel hq l2 l1 _ w0 a7 a6 (a2 v0) h0;have a5:YieldsS P ops S oq v a:=hv.same (eR a0 a1 a v0).1.symm (eR a0 a1 a v0).2.symm;refine⟨v,a5,?_⟩;rw[zB ⟨hc.1,by rw[(gU a0 a4 a v).2];exact hc.2⟩];refine Oper.eff_same (Oper.eff_mono h λv1 w1 ⟨hS1,h1⟩=>?_) (gU a0 a4 a v).1;have a3:S w1:=hS1.resolve_right (λe=>hk1 e.2);obtain⟨v2,hv2,h2⟩:=pW hsel hq l2 l1 _ w1 a3 a6 (a2 v1) h1;have e:v2=v:=YieldsS.one a3 hv2 (a5.same (eR a0 a1 a v1).1 (eR a0 a1 a v1).2);subst e;refine⟨.inl a3,?_⟩;rw[Act.put_comm a v2 v1 (λd hd hd'=>(Oper.apart_spec a0).2.1 d hd' hd)];exact h2
     rename_i hc;obtain⟨u,hu,h1⟩:=h;obtain⟨v,hv,h2⟩:=pW hsel hq l2 l1 _ w hS a6 (a2 u) h1;have a5:YieldsS P ops S oq v a:=hv.same (eR a0 a1 a u).1.symm (eR a0 a1 a u).2.symm;refine⟨v,a5,?_⟩;rw[zA (λe=>hc ⟨e.1,by rw[(gU a0 a4 a v).2]at e;exact e.2⟩)];refine⟨u,hu.same (gU a0 a4 a v).1 (gU a0 a4 a v).2,?_⟩;rw[Act.put_comm a v u (λd hd hd'=>(Oper.apart_spec a0).2.1 d hd' hd)];exact h2
theorem aCD (hsel:∀(j:Nat) (o:Oper) cs b,ops[j]? =some o->o.op≠.select cs b) {q:Nat} {oq:Oper} (hq:ops[q]? =some oq) (hE:E.contains q=true) (l2:List Nat):
 ∀(l1:List Nat) (a:Act) (w:World),(∀k∈l1,E.contains k=false/\∀ok,ops[k]? =some ok->ok.apart ops oq=true)->
  Region.wanted oq (yielded ops a.tmps)=true->
  wpE P ops S E lx Q (l1++q::l2) a w->oq.eff P a w λv w'=>(S w'\/(lx=true/\q+1=ops.size))/\wpE P ops S E lx Q (l1++l2) (a.put oq.dst v) w'
 | [],a,w,_,hw,h=>by simp only[List.nil_append,wpE,hq]at h;rw[zB ⟨hE,hw⟩]at h;exact h
 | k ::l1,a,w,hl,hw,h=>by
   simp only[List.cons_append,wpE]at h |-;obtain⟨hk1,hk2⟩:=hl k (zQ);cases hk:ops[k]? with
   |none=>rw[hk]at h;exact h.elim
   | some ok=>rw[hk]at h;have a0:=hk2 ok hk;have a1:=λcs b=>hsel k ok cs b hk;have a2:=λcs b=>hsel q oq cs b hq;simp only at h |-;rw[zA (by rintro⟨h1,_⟩;rw[hk1]at h1;cases h1)]at h;obtain⟨u,hu,h1⟩:=h;have h2:=aCD hsel hq hE l2 l1 _ w (λj hj=>hl j (zL _ hj)) (by rw[(eR a0 a2 a u).2];exact hw) h1;refine Oper.eff_same (Oper.eff_mono h2 λv w' ⟨hS',h3⟩=>⟨hS',?_⟩) (eR a0 a2 a u).1.symm;rw[zA (by rintro⟨h1,_⟩;rw[hk1]at h1;cases h1)];refine⟨u,hu.same (gU a0 a1 a v).1 (gU a0 a1 a v).2,?_⟩;rw[<-Act.put_comm a u v (λd hd hd'=>(Oper.apart_spec a0).2.1 d hd hd')];exact h3
end
def Region.maskOk (ops:Array Oper) (M:Array Nat):Bool:=
 (List.range ops.size).all λi=>match ops[i]? with
  |some o=>(M.getD i 0==o.after.toList.foldl (λs e=>if Region.binds .any e then s ||| 2 ^ e.on ||| M.getD e.on 0 else s) 0)&&o.after.toList.all λe=>!Region.binds .any e||decide (e.on<i)
  |none=>true
theorem aCE (M:Array Nat) (j:Nat):∀(l:List Edge) (s:Nat),(l.foldl (λs e=>if Region.binds .any e then s ||| 2 ^ e.on ||| M.getD e.on 0 else s) s).testBit j=true->
 s.testBit j=true\/∃e∈l,Region.binds .any e=true/\(e.on=j\/(M.getD e.on 0).testBit j=true)
 |[],s,h=>.inl h
 | e ::l,s,h=>by
   rcases aCE M j l _ h with h1|⟨e',he',hb,h2⟩
   .dsimp only at h1;by_cases hb:Region.binds .any e=true
    .rw[zB hb]at h1;simp only[Nat.testBit_or,yI,Nat.testBit_two_pow,zI]at h1;rcases h1 with(h1|h1)|h1
     .exact .inl h1
     .exact .inr ⟨e,zQ,hb,.inl h1⟩
     exact .inr ⟨e,zQ,hb,.inr h1⟩
    rw[zA hb]at h1;exact .inl h1
   exact .inr ⟨e',zL _ he',hb,h2⟩
theorem uQ {ops:Array Oper} {M:Array Nat} (hM:Region.maskOk ops M=true) {listed:Array Bool}
 (hcl:∀i o,ops[i]? =some o->listed.getD i true=true->i<listed.size->∀e∈o.after,Region.binds .any e=true->listed.getD e.on false=true) (hsz:listed.size=ops.size) (j:Nat):
 ∀(n i:Nat) (o:Oper),i<n->ops[i]? =some o->(∀e∈o.after,Region.binds .any e=true->listed.getD e.on false=true)->(M.getD i 0).testBit j=true->listed.getD j false=true
 |0,i,_,hi,_,_,_=>by omega
 | n + 1,i,o,hi,ho,hd,ht=>by
   have a2:i<ops.size:=(Array.getElem?_eq_some_iff.1 ho).1;have h1:=List.all_eq_true.1 hM i (List.mem_range.2 a2);rw[ho]at h1;simp only[zE,beq_iff_eq]at h1;rw[h1.1]at ht;rcases aCE M j _ _ ht with h0|⟨e,he,hb,h2⟩
   .simp at h0
   have a0:=hd e (by simpa using he) hb;rcases h2 with h2|h2
   .rw[<-h2];exact a0
   have a3:e.on<i:=by have:=List.all_eq_true.1 h1.2 e he;simpa[hb]using this
   have a1:e.on<ops.size:=by omega
   obtain⟨o',ho'⟩:∃o',ops[e.on]? =some o':=⟨_,yA a1⟩;refine uQ hM hcl hsz j n e.on o' (by omega) ho' (hcl e.on o' ho' ?_ (by omega)) h2;have hs:e.on<listed.size:=by omega
   simp[hs]at a0 |-;exact a0
def Region.effB (ops:Array Oper) (M:Array Nat) (E:List Nat) (lx:Bool):Bool:=
 Region.noSelect ops&&Region.maskOk ops M&&(List.range ops.size).all λi=>(List.range i).all λj=>
  match ops[i]?,ops[j]? with
  |some oi,some oj=>((M.getD i 0).testBit j||oj.apart ops oi)&&(!(E.contains i&&E.contains j)||(M.getD i 0).testBit j)&&(!(lx&&i+1==ops.size)||(M.getD i 0).testBit j)
  |_,_=>false
theorem aOF {ops:Array Oper} {M:Array Nat} {E:List Nat} {lx:Bool} (h:Region.effB ops M E lx=true) {i j:Nat} {oi oj:Oper} (hi:ops[i]? =some oi) (hj:ops[j]? =some oj) (hji:j<i) (hno:(M.getD i 0).testBit j=false):
 oj.apart ops oi=true/\(E.contains i=true->E.contains j=false)/\(lx=true->i+1≠ops.size):=by
 have a0:i<ops.size:=(Array.getElem?_eq_some_iff.1 hi).1;simp only[Region.effB,zE]at h;have h1:=List.all_eq_true.1 (List.all_eq_true.1 h.2 i (List.mem_range.2 a0)) j (List.mem_range.2 hji);rw[hi,hj]at h1;simp only[hno,Bool.false_or,Bool.or_false,zE,yL,Bool.and_eq_false_iff]at h1;refine⟨h1.1.1,λhe=>?_,λhl he=>?_⟩
 .rcases h1.1.2 with h2|h2
  .rw[he]at h2;cases h2
  exact h2
 rcases h1.2 with h2|h2
 .rw[hl]at h2;cases h2
 simp[he]at h2
section
variable {P:Program} {ops:Array Oper} {S:World->Prop} {E:List Nat} {lx:Bool} {M:Array Nat} {Q:Exit->Act->World->Prop}
theorem aWB (hB:Region.effB ops M E lx=true):∀(n:Nat) (R:List Nat) (listed:Array Bool) (a:Act) (w:World),R.length=n->listed.size=ops.size->
 (∀i o,ops[i]? =some o->listed.getD i true=true->i<listed.size->∀e∈o.after,Region.binds .any e=true->listed.getD e.on false=true)->
 (∀j,j<ops.size->(listed.getD j true=false↔j∈R))->R.Pairwise (·<·)->(∀j∈R,j<ops.size)->(R=[]\/S w)->
 wpE P ops S E lx (λa w=>Q .normal a w) R a w->wpAny P .any ops Q n listed a w:=by
 have b1:=hB;simp only[Region.effB,zE]at b1;obtain⟨⟨hsel0,hM⟩,_⟩:=b1;have a3:=Region.noSelect_spec hsel0;intro n
 induction n with
 | zero=>intro R listed a w hn hsz hcl hR hso hlt hS h;obtain rfl:R=[]:=zT hn;refine⟨List.eq_nil_iff_forall_not_mem.2 λi hi=>?_,by simpa[wpE]using h⟩;obtain⟨h0,o,ho,_⟩:=mem_ready.1 hi;have:=(hR i (Array.getElem?_eq_some_iff.1 ho).1).1 h0;cases this
 | succ n ih=>
   intro R listed a w hn hsz hcl hR hso hlt hS h;have b0:S w:=by
    rcases hS with hS|hS
    .subst hS;simp at hn
    exact hS
   have un:∀j,j<ops.size->j∉R->listed.getD j false=true:=λj hj hjR=>by
    have h1:¬listed.getD j true=false:=λe=>hjR ((hR j hj).1 e);have hs:j<listed.size:=by omega
    simp[hs]at h1 |-;exact h1
   refine⟨λh0=>?_,λi hi=>?_⟩
   .exfalso
    match R,hn with
    | r ::R',_=>
      have hr:r<ops.size:=hlt r (zQ);have a1:r∈Region.ready .any ops listed:=by
       refine mem_ready.2 ⟨(hR r hr).2 (zQ),_,yA hr,λe he hb=>?_⟩;have h1:=List.all_eq_true.1 hM r (List.mem_range.2 hr);rw[yA hr]at h1;simp only[zE]at h1;have b6:e.on<r:=by have:=List.all_eq_true.1 h1.2 e (by simpa using he);simpa[hb]using this
       refine un e.on (by omega) λa1=>?_;rcases List.mem_cons.1 a1 with h2|h2
       .omega
       have:=(List.pairwise_cons.1 hso).1 _ h2;omega
      rw[h0]at a1;cases a1
   obtain⟨hi0,oi,hoi,hdep⟩:=mem_ready.1 hi;have b4:i<ops.size:=(Array.getElem?_eq_some_iff.1 hoi).1;have b5:i∈R:=(hR i b4).1 hi0;obtain⟨l1,l2,rfl⟩:=List.append_of_mem b5;have a4:=List.pairwise_append.1 hso;have a9:∀k∈l1,k<i:=λk hk=>a4.2.2 k hk i (zQ);have b2:∀k∈l2,i<k:=(List.pairwise_cons.1 a4.2.1).1;have a0:∀k∈l1,∀ok,ops[k]? =some ok->ok.apart ops oi=true/\(E.contains i=true->E.contains k=false)/\(lx=true->i+1≠ops.size):=λk hk ok hok=>by
    refine aOF hB hoi hok (a9 k hk) ?_;rw[<-Bool.not_eq_true];intro ht;have h1:=uQ hM hcl hsz k (i+1) i oi (by omega) hoi hdep ht;have h2:=(hR k (hlt k (List.mem_append_left _ hk))).2 (List.mem_append_left _ hk);have hs:k<listed.size:=by have:=a9 k hk;omega
    simp[hs]at h1 h2;rw[h1]at h2;cases h2
   have a5:(listed.setIfInBounds i true).size=ops.size:=by simpa using hsz
   have a6:∀j o,ops[j]? =some o->(listed.setIfInBounds i true).getD j true=true->j<(listed.setIfInBounds i true).size->∀e∈o.after,Region.binds .any e=true->(listed.setIfInBounds i true).getD e.on false=true:=by
    intro j o ho hj hjs e he hb;by_cases hij:i=j
    .subst hij;have:o=oi:=Option.some.inj (ho.symm.trans hoi);subst this;exact getD_set_true (hdep e he hb)
    rw[getD_set_ne true hij]at hj;exact getD_set_true (hcl j o ho hj (by simpa using hjs) e he hb)
   have b3:∀j,j<ops.size->((listed.setIfInBounds i true).getD j true=false↔j∈l1++l2):=by
    intro j hj;by_cases hij:i=j
    .subst hij;constructor
     .intro hf;have hs:i<listed.size:=by omega
      simp[hs]at hf
     intro hm;rcases List.mem_append.1 hm with hm|hm
     .have:=a9 _ hm;omega
     have:=b2 _ hm;omega
    rw[getD_set_ne true hij,hR j hj];simp only[yR,List.mem_cons];constructor
    .rintro(h1|h1|h1)
     .exact .inl h1
     .exact absurd h1.symm hij
     exact .inr h1
    rintro(h1|h1)
    .exact .inl h1
    exact .inr (.inr h1)
   have a7:(l1++l2).Pairwise (·<·):=hso.sublist (List.Sublist.append_left (List.sublist_cons_self i l2) l1);have a2:∀j∈l1++l2,j<ops.size:=λj hj=>hlt j (by
    rcases List.mem_append.1 hj with h1|h1
    .exact List.mem_append_left _ h1
    exact List.mem_append_right _ (zL _ h1))
   have a8:(l1++l2).length=n:=by simp at hn |-;omega
   unfold wpOp;simp only[hoi];by_cases hc:E.contains i=true/\Region.wanted oi (yielded ops a.tmps)=true
   .have h1:=aCD a3 hoi hc.1 l2 l1 a w (λk hk=>⟨by
     obtain⟨ok,hok⟩:∃ok,ops[k]? =some ok:=⟨_,yA (hlt k (List.mem_append_left _ hk))⟩;exact(a0 k hk ok hok).2.1 hc.1,λok hok=>(a0 k hk ok hok).1⟩) hc.2 h
    rw[zB hc.2];refine .inl (Oper.wp_of_eff h1 λv w' ⟨hS',h2⟩=>ih _ _ _ _ a8 a5 a6 b3 a7 a2 ?_ h2);rcases hS' with hS'|⟨hl,he⟩
    .exact .inr hS'
    refine .inl ?_;have e1:l1=[]:=List.eq_nil_iff_forall_not_mem.2 λk hk=>by obtain⟨ok,hok⟩:∃ok,ops[k]? =some ok:=⟨_,yA (hlt k (List.mem_append_left _ hk))⟩;exact(a0 k hk ok hok).2.2 hl he
    have e2:l2=[]:=List.eq_nil_iff_forall_not_mem.2 λk hk=>by have h3:=b2 k hk;have h4:=a2 k (List.mem_append_right _ hk);omega
    rw[e1,e2];rfl
   obtain⟨v,hv,h1⟩:=pW a3 hoi l2 l1 a w b0 (λk hk=>⟨by have:=a9 k hk;omega,λok hok=>(a0 k hk ok hok).1⟩) (by
    rcases Bool.eq_false_or_eq_true (E.contains i)with h2|h2
    .exact .inr (by rw[<-Bool.not_eq_true];exact λh3=>hc ⟨h2,h3⟩)
    exact .inl h2) h
   have h2:=ih _ _ _ _ a8 a5 a6 b3 a7 a2 (.inr b0) h1;rcases hv with⟨hw,hv⟩|⟨hw,rfl⟩
   .rw[zB hw];refine .inl ?_;unfold Oper.wp;rw[hv w b0];exact h2
   rw[zA (by rw[hw];exact Bool.false_ne_true)];exact h2
def wpL (P:Program) (ops:Array Oper) (S:World->Prop) (E:List Nat) (lx:Bool) (Q:Act->World->Prop):Nat->List Oper->Act->World->Prop
 |_,[],a,w=>Q a w
 | k,o::rest,a,w=>
   if E.contains k=true/\Region.wanted o (yielded ops a.tmps)=true then
    o.eff P a w λv w'=>(S w'\/(lx=true/\k+1=ops.size))/\wpL P ops S E lx Q (k+1) rest (a.put o.dst v) w'
   else ∃v,YieldsS P ops S o v a/\wpL P ops S E lx Q (k+1) rest (a.put o.dst v) w
theorem rF {Q:Act->World->Prop}:∀(l:List Oper) (k:Nat) (a:Act) (w:World),(∀j,l[j]? =ops[k+j]? \/l.length<=j)->wpL P ops S E lx Q k l a w->wpE P ops S E lx Q (List.range' k l.length) a w
 |[],_,_,_,_,h=>by simpa[wpL,wpE]using h
 | o ::l,k,a,w,hl,h=>by
   have h0:ops[k]? =some o:=by
    rcases hl 0 with h0|h0
    .simpa using h0.symm
    simp at h0
   have a0:∀j,l[j]? =ops[k+1+j]? \/l.length<=j:=λj=>by
    rcases hl (j+1)with h1|h1
    .left;rw[show k+1+j=k+(j+1) by omega,<-h1];simp
    right;simp at h1;omega
   simp only[zK,List.range'_succ,wpE,h0];simp only[wpL]at h;split at h
   .rename_i hc
    rw[zB hc];exact Oper.eff_mono h λv w' ⟨h1,h2⟩=>⟨h1,rF l (k+1) _ w' a0 h2⟩
   rename_i hc;rw[zA hc];obtain⟨v,h1,h2⟩:=h;exact⟨v,h1,rF l (k+1) _ w a0 h2⟩
theorem aH {id:Nat} {a:Act} {w:World} {l:List Oper} (E:List Nat) (lx:Bool) (S:World->Prop) (hm:P.follows .mixedOrders=true) (hB:Region.effB l.toArray (Region.before l.toArray) E lx=true)
 (hS:S w.drew) (h:wpL P l.toArray S E lx (λa' w'=>Q .normal a' w') 0 l a w.drew):(Code.region id l.toArray true).wp P Q a w:=by
 have h':wpE P l.toArray S E lx (λa' w'=>Q .normal a' w') (List.range l.length) a w.drew:=by rw[List.range_eq_range'];exact rF l 0 a w.drew (λj=>.inl (by simp)) h
 refine wp_region_any hm (aWB (S:=S) (E:=E) (lx:=lx) (M:=Region.before l.toArray) hB _ (List.range l.length) _ _ _ (by simp) (by simp) ?_ ?_ List.pairwise_lt_range (by simp) (.inr hS) h')
 .intro i o _ hl hs;exfalso;simp at hs;simp[hs]at hl
 intro j hj;simp at hj;simp[hj]
end
attribute [go_sem] Oper.eff
section
variable {P:Program} {ops:Array Oper} {S:World->Prop} {E:List Nat} {lx:Bool} {Q:Act->World->Prop} {o:Oper} {a:Act} {w:World}
theorem aI {k:Nat} {l:List Oper} (hE:E.contains k=false) (hw:Region.wanted o (yielded ops a.tmps)=true)
 (h:∃v:Value,(∀w',S w'->(execOp a.eval o).run P w'=.ok (.value v) w')/\wpL P ops S E lx Q (k+1) l (a.put o.dst v) w):wpL P ops S E lx Q k (o::l) a w:=by
 obtain⟨v,h1,h2⟩:=h;simp only[wpL];rw[zA (by rintro⟨h1,_⟩;rw[hE]at h1;cases h1)];exact⟨v,.inl ⟨hw,h1⟩,h2⟩
theorem aI0 {k:Nat} {l:List Oper} (hE:E.contains k=false) (hw:Region.wanted o (yielded ops a.tmps)=true) {v:Value} (h1:∀w',S w'->(execOp a.eval o).run P w'=.ok (.value v) w') (h2:wpL P ops S E lx Q (k+1) l (a.put o.dst v) w):wpL P ops S E lx Q k (o::l) a w:=aI hE hw ⟨v,h1,h2⟩
theorem bB {k:Nat} {l:List Oper} (hE:E.contains k=true) (hw:Region.wanted o (yielded ops a.tmps)=true)
 (h:o.eff P a w λv w'=>(S w'\/(lx=true/\k+1=ops.size))/\wpL P ops S E lx Q (k+1) l (a.put o.dst v) w'):wpL P ops S E lx Q k (o::l) a w:=by
 simp only[wpL];rw[zB ⟨hE,hw⟩];exact h
theorem aU {k:Nat} (h:Q a w):wpL P ops S E lx Q k [] a w:=h
theorem aS {K:Value->World->Prop} (f:FuncId) (args:Array Value) (hr:(execOp a.eval o).run P w=.ok (.enter f args) w) (h:Calls P f args w λe w'=>∃v,e=.returned v/\K v w'):o.eff P a w K:=by unfold Oper.eff;rw[hr];exact h
end
theorem nS {P:Program} {ops:Array Oper} {S:World->Prop} {E:List Nat} {lx:Bool} {Q:Act->World->Prop} {o:Oper} {a:Act} {w:World} {k:Nat} {l:List Oper} (hE:E.contains k=true) (hw:Region.wanted o (yielded ops a.tmps)=true)
 (h:∃(v:Value) (w':World),(execOp a.eval o).run P w=.ok (.value v) w'/\(S w'\/(lx=true/\k+1=ops.size))/\wpL P ops S E lx Q (k+1) l (a.put o.dst v) w'):wpL P ops S E lx Q k (o::l) a w:=by
 obtain⟨v,w',h1,h2⟩:=h;refine bB hE hw ?_;unfold Oper.eff;rw[h1];exact h2
theorem aW {P:Program} {ops:Array Oper} {S:World->Prop} {E:List Nat} {lx:Bool} {Q:Act->World->Prop} {o:Oper} {a:Act} {w:World} {k:Nat} {l:List Oper} (hE:E.contains k=true) (hw:Region.wanted o (yielded ops a.tmps)=true)
 (h:∃(w':World),(execOp a.eval o).run P w=.ok .skip w'/\(S w'\/(lx=true/\k+1=ops.size))/\wpL P ops S E lx Q (k+1) l (a.put o.dst undef) w'):wpL P ops S E lx Q k (o::l) a w:=by
 obtain⟨w',h1,h2⟩:=h;refine bB hE hw ?_;unfold Oper.eff;rw[h1];exact h2
end Go
namespace Go
section
variable {P:Program} {ops:Array Oper} {C:World->Prop} {Q:Act->Prop} {a:Act} {o:Oper} {rest:List Oper}
structure WQ (P:Program) (ops:Array Oper) (C:World->Prop) (Q:Act->Prop) (l:List Oper) (a:Act):Prop where
 out:wpQuiet P ops C Q l a
theorem sB (h:∀K:Act->Prop,(∀a,WQ P ops C Q rest a->K a)->if Region.wanted o (yielded ops a.tmps)then o.quiet P a C K else K (a.put o.dst undef)):WQ P ops C Q (o::rest) a:=
 ⟨wpQuiet_step λK hK=>h K λa ha=>hK a ha.out⟩
theorem bBS (h:Q a):WQ P ops C Q [] a:=⟨wpQuiet_nil h⟩
theorem WN {F:Behind->World} {R:Act->World->Prop} (h:∀p,R a (F p)):WQ P ops (λw'=>∃p,w'=F p) (λa=>∀w1,(∃p,w1=F p)->R a w1) [] a:=⟨wpQuiet_nil (λw1 ⟨p,e⟩=>by subst e;exact h p)⟩
end
end Go
namespace Go.Proofs.YtmkapobnfigedaaGreatDoor
open Go.Proofs.Tryz List Go.RowKit
section
end
theorem tX (s:ByteArray) (pos:Nat) (h:pos<s.size):1<=(Utf8.decode s pos).2:=by
 by_cases ha:(s[pos]'h).toNat<128
 .rw[decode_ascii s pos h ha];exact zC _
 exact(decode_high s pos h (by omega)).2
def fC (s:ByteArray):Nat->Nat->Int->Int
 |0,_,h=>h
 |b+1,pos,h=>if pos<s.size then fC s b (pos+(Utf8.decode s pos).2) ((31*h+(Utf8.decode s pos).1)%4294967296)else h
theorem aES (s:ByteArray) (b pos:Nat) (h:Int) (hp:¬pos<s.size):fC s b pos h=h:=by
 cases b with
 |zero=>rfl
 |succ b=>simp[fC,hp]
theorem lD (s:ByteArray):∀b pos h,0<=h/\h<4294967296->0<=fC s b pos h/\fC s b pos h<4294967296
 |0,_,h,hh=>hh
 | b+1,pos,h,hh=>by
   unfold fC;split
   .exact lD s b _ _ (by omega)
   exact hh
def pG (s:ByteArray):Int:=fC s s.size 0 7
theorem aWJ (s:ByteArray) (w:World):
 vR w 169 #[.string s] (.int .i64 (pG s)):=by
 have hb:=lD s s.size 0 7 (by omega);unfold vR;go_in;go_wp2
 go_loopw[3] (λn w'=>∃(pos b:Nat) (acc:Int),w'=w.iter s pos/\n=.int .u32 acc/\fC s b pos acc=pG s/\s.size<=pos+b) (λ_ w'=>s.size-w'.iterPos w.heap.size)
 case atStart=>exact⟨0,s.size,7,rfl,rfl,rfl,by omega⟩
 obtain⟨pos,b,acc,rfl,rfl,hc,hbp⟩:=hrel;by_cases hp:pos<s.size
 .have a0:∀ty,(Instr.next (.pointer w.heap.size) true ty).run prog (w.iter s pos)=_:=λty=>run_next_any w s pos ty hp
  go_wp2_with fail;have a1:=tX s pos hp;go_roundw
  case rel=>
   cases b with
   |zero=>omega
   | succ b=>refine⟨pos+(Utf8.decode s pos).2,b,_,rfl,rfl,?_,by omega⟩;rw[<-hc];simp[fC,hp]
  simp;omega
 have a0:∀ty,(Instr.next (.pointer w.heap.size) true ty).run prog (w.iter s pos)=_:=λty=>run_next_end w s pos ty hp;rw[aES s b pos acc hp]at hc;subst hc;have hw:IntKind.i64.wrap (pG s)=pG s:=by rw[IntKind.wrap_i64];unfold pG;omega
 go_wp2;go_ret;refine⟨rfl,(Below.refl _ w).alloc (zC _) _⟩
def aV (s:ByteArray):Int:=pG s%8
theorem nB (s:ByteArray) (w:World):
 vR w 133 #[.string s] (.int .i64 (aV s)):=by
 have hb:0<=pG s/\pG s<4294967296:=lD s s.size 0 7 (by omega);unfold vR;go_in;go_wp2_with(go_at_call 169;refine aE (aWJ _ _) λp=>?_);refine xD (v:=.int .i64 (aV s)) (by simp[results,Tryz.results133,go_sem,aV]) rfl ⟨rfl,bel _ _⟩
def jX (s p:ByteArray):Bool:=decide (p.size<=s.size)&&((s.extract 0 p.size).toList==p.toList)
theorem aOU (s p:ByteArray) (w:World):
 Calls prog 210 #[s,p] w λe w'=>e=.returned (.bool (jX s p))/\w'=w:=by
 unfold jX;by_cases h:p.size<=s.size
 .have h2:(p.size:Int)<=s.size:=by omega
  have h3:decide (p.size<=s.size)=true:=by simp[h]
  rw[h3,xC];go_in;go_wp2;go_ret;exact⟨rfl,rfl⟩
 have h2:¬(p.size:Int)<=s.size:=by omega
 have h3:decide (p.size<=s.size)=false:=by simp[h]
 rw[h3,yJ];go_in;go_wp2;go_ret;exact⟨rfl,rfl⟩
theorem aCW (s p:ByteArray) (w:World):
 Calls prog 197 #[s,p] w λe w'=>e=.returned (.bool (jX s p))/\w'=w:=by
 go_in;go_wp2_with(go_at_call 210;refine(aOU _ _ _).mono ?_;rintro e w' ⟨rfl,rfl⟩);go_ret;exact⟨rfl,rfl⟩
def fV (s:ByteArray) (pos:Nat) (r:Nat):Bool:=((r:Int)==47)||decide ((r:Int)<32)||((r:Int)==127)||(((Utf8.encode (r:Int)).toList==[239,191,189])&&!jX (s.extract pos s.size) ⟨#[239,191,189]⟩)
def bZ (s:ByteArray):Nat->Nat->Bool
 |0,_=>true
 |b+1,pos=>if pos<s.size then !fV s pos (Utf8.decode s pos).1&&bZ s b (pos+(Utf8.decode s pos).2)else true
theorem aBI (s:ByteArray) (b pos:Nat) (hp:¬pos<s.size):bZ s b pos=true:=by
 cases b with
 |zero=>rfl
 |succ b=>simp[bZ,hp]
def cU (s:ByteArray):Int:=if 12<s.size then 801 else if(s.toList.isEmpty||s.toList==[46]||s.toList==[46,46])=true then 800 else if bZ s s.size 0=true then 0 else 800
theorem xP (s : ByteArray) (w:World):
 vR w 168 #[.string s] (.int .i64 (cU s)):=by
 by_cases hlen:12<s.size
 .have a1:(12:Int)<s.size:=by omega
  have hM:cU s=801:=by simp[cU,hlen]
  rw[hM];unfold vR;go_in;go_wp2;go_ret;refine⟨rfl,bel _ _⟩
 have a1:¬(12:Int)<s.size:=by omega
 rcases h1:s.toList.isEmpty with _|_;rcases h2:s.toList==[46]with _|_;rcases h3:s.toList==[46,46]with _|_
 .have hM : cU s=if bZ s s.size 0=true then 0 else 800:=by simp only[cU,zA hlen,h1,h2,h3];rfl
  rw[hM];obtain⟨V,hV⟩:∃V:Int,(if bZ s s.size 0=true then 0 else 800)=V:=⟨_,rfl⟩;rw[hV];obtain⟨T,hT⟩:=gAB (bZ s s.size 0);rw[hT]at hV;have HV:=aC hV;clear hV hM;unfold vR;go_in;go_wp2
  go_loopw[] (λw'=>∃(pos b:Nat),w'=w.iter s pos/\bZ s b pos=T/\s.size<=pos+b) (λw'=>s.size-w'.iterPos w.heap.size)
  case atStart=>exact⟨0,s.size,rfl,hT,by omega⟩
  obtain⟨pos,b,rfl,hc,hbp⟩:=hrel;by_cases hp:pos<s.size
  .have a7 :=tX s pos hp;obtain⟨b',rfl⟩:∃b',b=b'+1:=⟨b-1,by omega⟩
   have a0:T=(!fV s pos (Utf8.decode s pos).1&&bZ s b' (pos+(Utf8.decode s pos).2)):=by rw[<-hc];simp[bZ,hp]
   have a6:∀ty,(Instr.next (.pointer w.heap.size) true ty).run prog (w.iter s pos)=_:=λty=>run_next_any w s pos ty hp;have a8:pos<=s.size:=by omega
   generalize hr:(Utf8.decode s pos).1=r at a6 a0;have a2:∀ww:World,fV s pos r=true->Bl w ww->(Ending.returned (.int .i64 800)=Ending.returned (.int .i64 V)/\Bl w ww):=λww hb hbw=>by rw[hb]at a0;simp only[Bool.not_true,yJ]at a0;have:=HV.out;rw[a0]at this;rw[<-this];exact⟨rfl,hbw⟩
   have a3:Bl w (w.iter s (pos+(Utf8.decode s pos).2)):=(Below.refl _ w).alloc (zC _) _;have HS:=aC a0;have HE:=aC a2;clear a0 a2 hc hT;rcases k1:((r:Int)==47)with _|_
   .by_cases k2:(r:Int)<32
    .go_wp2;go_ret;refine(HE.out _ (by simp[fV,k2]) a3)
    rcases k3:((r:Int)==127)with _|_
    .rcases k4:((Utf8.encode (r:Int)).toList==[239,191,189])with _|_
     .go_wp2
      go_roundw
      case rel=>exact⟨_,b',rfl,by rw[HS.out];simp[fV,k1,k2,k3,k4],by omega⟩
      simp;omega
     rcases k5:jX (s.extract pos s.size) ⟨#[239,191,189]⟩with _|_
     .have a4:∀ww,Calls prog 197 #[.string (s.extract pos s.size),.string ⟨#[239,191,189]⟩] ww λe w'=>e=.returned (.bool false)/\w'=ww:=λww=>by rw[<-k5];exact aCW _ _ ww
      go_wp2_with(go_at_call 197;refine(a4 _).mono ?_;rintro e w' ⟨rfl,rfl⟩);go_ret;refine(HE.out _ (by simp only[fV,k4,k5];simp) a3)
     have a4:∀ww,Calls prog 197 #[.string (s.extract pos s.size),.string ⟨#[239,191,189]⟩] ww λe w'=>e=.returned (.bool true)/\w'=ww:=λww=>by rw[<-k5];exact aCW _ _ ww
     go_wp2_with(go_at_call 197;refine(a4 _).mono ?_;rintro e w' ⟨rfl,rfl⟩);go_roundw
     case rel=>exact⟨_,b',rfl,by rw[HS.out];simp[fV,k1,k2,k3,k4,k5],by omega⟩
     simp;omega
    go_wp2;go_ret;refine(HE.out _ (by simp[fV,k3]) a3)
   go_wp2;go_ret;refine(HE.out _ (by simp[fV,k1]) a3)
  have a6:∀ty,(Instr.next (.pointer w.heap.size) true ty).run prog (w.iter s pos)=_:=λty=>run_next_end w s pos ty hp;rw[aBI s b pos hp]at hc;have a5:=HV.out;rw[<-hc]at a5;obtain rfl:V=0:=a5.symm;clear hc a5 hT HV;go_wp2;go_ret;refine⟨rfl,(Below.refl _ w).alloc (zC _) _⟩
 all_goals
  have hM:cU s=800:=by simp only[cU,zA hlen];simp[*]
  rw[hM];unfold vR;go_in;go_wp2;go_ret;refine⟨rfl,bel _ _⟩
def dP (s:ByteArray):Bool:=cU s==0
theorem aTB (s:ByteArray) (w:World):
 vR w 132 #[.string s] (.bool (dP s)):=by
 unfold dP;unfold vR;go_in;go_wp2_with(go_at_call 168;refine aE (xP _ _) λp=>?_);go_ret;exact gAC
end Go.Proofs.YtmkapobnfigedaaGreatDoor
namespace Go
def World.itTo (w:World) (b:Nat) (s:ByteArray) (pos:Nat):World:={ w with heap:=w.heap.setIfInBounds b (.stringIter s pos)}
theorem aEU {P:Program} (w:World) (b:Nat) (s:ByteArray) (pos:Nat) (ty:TypeId) (hb:w.heap[b]? =some (.stringIter s pos)) (h:pos<s.size):
 (Instr.next (.pointer b) true ty).run P w=.ok (.tuple #[true,pos,.int .i32 (Utf8.decode s pos).1]) (w.itTo b s (pos+(Utf8.decode s pos).2)):=by
 simp only[Instr.next,getObj,setObj,Sem.run_bind,Sem.run,hb,Result.andThen,h,if_true];simp[goInt,World.itTo]
theorem aBJ {P:Program} (w:World) (b:Nat) (s:ByteArray) (pos:Nat) (ty:TypeId) (hb:w.heap[b]? =some (.stringIter s pos)) (h:¬pos<s.size):
 (Instr.next (.pointer b) true ty).run P w=.ok (.tuple #[false]) w:=by
 simp[Instr.next,getObj,Sem.run,hb,h]
theorem World.itTo_at {w:World} {b:Nat} {s s':ByteArray} {p:Nat} (hb:w.heap[b]? =some (.stringIter s' p)) (pos:Nat):(w.itTo b s pos).heap[b]? =some (.stringIter s pos):=by have:=(Array.getElem?_eq_some_iff.1 hb).1;simp[World.itTo,this]
@[go_sem, simp] theorem World.itTo_size (w : World) (b : Nat) (s : ByteArray) (p : Nat) : (w.itTo b s p).heap.size = w.heap.size := by simp [World.itTo]
instance {w:World} {n b p:Nat} {s:ByteArray} [h:SizeIs w n]:SizeIs (w.itTo b s p) n:=⟨by simp[h.eq]⟩
instance {w:World} {k b p:Nat} {s:ByteArray} [h:BlockLt k w]:BlockLt k (w.itTo b s p):=⟨by simpa using h.lt⟩
theorem Keep.itTo {S:Nat->Prop} {a w:World} (h:Keep S a w) {b:Nat} (hb:S b) (s:ByteArray) (p:Nat):Keep S a (w.itTo b s p):=
 ⟨h.os,h.tape,h.output,by simpa using h.size,λi hi hn=>by
  rw[<-h.block i hi hn];simp only[World.itTo];rw[Array.getElem?_setIfInBounds_ne];rintro rfl;exact hn hb⟩
end Go
namespace Go.Proofs.YtmkapobnfigedaaGreatDoor
open Go.Proofs.Tryz List Go.RowKit
theorem gX {w:World} {b:Nat} {s:ByteArray} {p:Nat} (h:w.heap[b]? =some (.stringIter s p)):w.iterPos b=p:=by simp[World.iterPos,h]
def aTI (R:Int × List ByteArray):Int × List ByteArray:=if R.1=0/\4<R.2.length then(1102,[])else R
def Parsed (w:World) (F:Int × List ByteArray) (e:Ending) (w':World):Prop:=∃v,e=.returned (.tuple #[v,F.1])/\Bl w w'/\w'.ownsRow 0 9 1 v F.2.length (F.2.map .string)/\∀b,v.ownBlock=some b->w.heap.size<=b
theorem Parsed.nil {w w':World} {c:Int} (hb:Bl w w'):Parsed w (c,[]) (.returned (.tuple #[.slice none 0 0,c])) w':=⟨_,rfl,hb,⟨rfl,.inl ⟨rfl,rfl⟩⟩,by simp[Value.ownBlock]⟩
theorem aTJ:(prog.info? 9).map (λi=>(i.zero,i.size,i.bytes))=some (some (.string ByteArray.empty),1,16):=by kernel_rfl
def cM (s t:ByteArray):Nat->Nat->Nat->List ByteArray->Int × List ByteArray
 |0,_,_,acc=>(0,acc)
 | b+1,pos,fr,acc=>if pos<t.size then
  if(((pos:Int)==0)||!(((Utf8.decode t pos).1:Int)==47))=true then cM s t b (pos+(Utf8.decode t pos).2) fr acc
  else if cU (s.extract fr pos)=0 then cM s t b (pos+(Utf8.decode t pos).2) (pos+1) (acc++[s.extract fr pos])
  else if cU (s.extract fr pos)=801 then(1101,[])else(1100,[])
   else(0,acc)
theorem iH (s t:ByteArray) (b pos fr:Nat) (acc:List ByteArray) (h:¬pos<t.size):cM s t b pos fr acc=(0,acc):=by
 cases b with
 |zero=>rfl
 |succ b=>simp[cM,h]
def aA (s:ByteArray):Int × List ByteArray:=
 if 64<s.size then(1101,[])
 else if h:0<s.size then
  if(((s[0]'h).toNat:Int)==47)=false then(1100,[])
  else if s.size=1 then(0,[])
  else
   let r:=cM s (s++⟨#[47]⟩) (s++⟨#[47]⟩:ByteArray).size 0 1 []
   if r.1=0/\4<r.2.length then(1102,[])else r
 else(1100,[])
structure ParseAt (w:World) (s t:ByteArray) (R:Int × List ByteArray) (pos fr:Nat) (acc:List ByteArray) (v:Value) (wr:World):Prop where
 bel:Bl w wr
 it:wr.heap[w.heap.size]? =some (.stringIter t pos)
 own:wr.ownsRow 0 9 1 v acc.length (acc.map .string)
 loc:∀b,v.ownBlock=some b->w.heap.size<b
 rest:∃b,cM s t b pos fr acc=R/\t.size<=pos+b
 fr:fr<=pos\/(pos=0/\fr=1)
 len:acc.length<=pos
theorem aKA (s:ByteArray) (w:World) (h64:¬64<s.size) (i2:s.toList.isEmpty=false) (h0:0<s.size) (hc:(((s[0]'h0).toNat:Int)==47)=true) (h1:¬s.size=1) (R:Int × List ByteArray) (hR:cM s (s++⟨#[47]⟩) (s++⟨#[47]⟩:ByteArray).size 0 1 []=R):
 Calls prog 153 #[s] w (Parsed w (aTI R)):=by
 obtain⟨F,hF⟩:=gAB (aTI R);rw[hF];have HF:=aC hF;clear hF;have c4:¬(64:Int)<s.size:=by omega
 have i3:(((s[0]'h0).toNat:Int) !=47)=false:=by simp[bne,hc]
 have i4:((s.size:Int)==1)=false:=beq_eq_false_iff_ne.2 (by omega);have ht:(s++⟨#[47]⟩:ByteArray).size=s.size+1:=by simp[xA];rfl
 go_in;go_wp2_with fail;generalize hT:(s++⟨#[47]⟩:ByteArray)=t at ht hR
 go_loopw[4,5] (λv f wr=>∃(pos fr:Nat) (acc:List ByteArray),f=.int .i64 fr/\ParseAt w s t R pos fr acc v wr) (λ_ _ wr=>t.size-wr.iterPos w.heap.size)
 case atStart=>exact⟨0,1,[],rfl,(Below.refl _ w).alloc (zC _) _,World.iter_heap w t 0,⟨rfl,.inl ⟨rfl,rfl⟩⟩,by simp[Value.ownBlock],⟨t.size,hR,by omega⟩,.inr ⟨rfl,rfl⟩,by simp⟩
 obtain⟨pos,fr,acc,rfl,h⟩:=hrel;have H:=aC h;obtain⟨a0,cp0,rfl⟩:=oZ h.own;have a6:=h.it;by_cases hp:pos<t.size
 .have b2:∀ty,(Instr.next (.pointer w.heap.size) true ty).run prog wr=_:=λty=>aEU wr w.heap.size t pos ty a6 hp
  have c5:=tX t pos hp;obtain⟨b,hb,hbp⟩:=h.rest;obtain⟨b',rfl⟩:∃b',b=b'+1:=⟨b-1,by omega⟩;have c6:pos<=s.size:=by omega
  have b5:(pos:Int)<=s.size:=by omega
  have b6:=h.len;have b7:=h.bel.size;have c7:=h.fr;have b8:w.heap.size<wr.heap.size:=(Array.getElem?_eq_some_iff.1 a6).1;have a5:Bl w (wr.itTo w.heap.size t (pos+(Utf8.decode t pos).2)):=h.bel.trans (((Keep.refl (λk=>k=w.heap.size) wr).itTo rfl t _).below b7 (λi hi e=>by omega));have a2:=World.itTo_at (s:=t) a6 (pos+(Utf8.decode t pos).2);have a4:=((Keep.refl (λk=>k=w.heap.size) wr).itTo rfl t (pos+(Utf8.decode t pos).2)).own h.own (λk hk e=>by have:=h.loc k hk;omega);have a3:=h.loc;have HB:=aC hb;have HI:=mJ a5 a2 a4 a3;clear hb h a6 a5 a2 a4 a3;generalize hw2:wr.itTo w.heap.size t (pos+(Utf8.decode t pos).2)=wi at b2 HI;have c9:=aC (show wi.heap.size=wr.heap.size by rw[<-hw2];simp);generalize hrd:(Utf8.decode t pos).1=r at b2;by_cases hsk:(((pos:Int)==0)||!((r:Int)==47))=true
  .have b9:cM s t b' (pos+(Utf8.decode t pos).2) fr acc=R:=by
    have:=HB.out;rw[cM,zB hp,hrd,zB hsk]at this;exact this
   have a9:ParseAt w s t R (pos+(Utf8.decode t pos).2) fr acc (.slice a0 acc.length cp0) wi:=⟨HI.out.1,HI.out.2.1,HI.out.2.2.1,HI.out.2.2.2,⟨b',b9,by omega⟩,.inl (by omega),by omega⟩;rcases k1:((pos:Int)==0)with _|_
   .rcases k2:((r:Int)==47)with _|_
    .have c1:((r:Int) !=47)=true:=by simp[bne,k2]
     go_wp2;go_roundw
     case rel=>exact⟨_,fr,acc,rfl,a9⟩
     rw[gX HI.out.2.1,gX H.out.it];omega
    rw[k1,k2]at hsk;cases hsk
   go_wp2;go_roundw
   case rel=>exact⟨_,fr,acc,rfl,a9⟩
   rw[gX HI.out.2.1,gX H.out.it];omega
  have k1:((pos:Int)==0)=false:=by
   rcases h:((pos:Int)==0)with _|_
   .rfl
   rw[h]at hsk;exact absurd rfl hsk
  have k2:((r:Int)==47)=true:=by
   rcases h:((r:Int)==47)with _|_
   .rw[h,k1]at hsk;exact absurd rfl hsk
   rfl
  have c1:((r:Int) !=47)=false:=by simp[bne,k2]
  have d0:0<pos:=by
   rcases Nat.eq_zero_or_pos pos with h|h
   .subst h;cases k1
   exact h
  have d1:fr<=pos:=by omega
  have c2:(fr:Int)<=pos:=by omega
  have a1:=HB.out;rw[cM,zB hp,hrd,zA hsk]at a1;generalize hpc:s.extract fr pos=pc at a1;by_cases c0:cU pc=0
  .rw [zB c0]at a1;have HC:=aC a1;clear a1;have a8:∀ww,vR ww 168 #[.string pc] (.int .i64 0):=λww=>by rw[<-c0];exact xP pc ww
   obtain⟨j0,ji,jz0,jz1,jz2⟩:=info_parts aTJ;go_upto_region 18 with(go_at_call 168;refine aE (a8 _) λp=>?_)
   have b0:=((Keep.refl (λ_=>False) wi).junk p).own HI.out.2.2.1 (λ_ _ e=>e);have d2:acc.length<=65:=by omega
   go_wp2_with(at_builtin;refine wpList_append_own_at _ rfl (.tmp 46) (.tmp 51) 50 rfl 0 9 j0 _ 1 16 underlying50 ji jz0 jz1 jz2 rfl (by decide) (.slice a0 acc.length cp0) acc.length _ rfl (b0.alloc _) ⟨_,0,none⟩ 1 1 [.string pc] rfl rfl (λj' u hu=>aSK _ [.string pc] 9 _ j' u hu) (by simp[Value.oneCell']) (by unfold maxLen;omega) (by omega) (Nat.zero_le _) ?_);intro v' w1 hown1 hgrow _ a3;have HX:=eH hown1 hgrow a3;clear hown1 hgrow a3;go_wp2;go_roundw
   case rel=>
    obtain⟨hown1,hgrow,a3⟩:=HX.out;obtain⟨a5,a2,a4,hlo⟩:=HI.out;have b3:w.heap.size<wi.heap.size:=(Array.getElem?_eq_some_iff.1 a2).1;have hW:Bl w ((wi.junk p).alloc (.cells #[pc] 9)):=(gT _ _ _ p a5 a5.size).alloc (gT _ _ _ p a5 a5.size).size _;have b4:((wi.junk p).alloc (.cells #[pc] 9)).heap[w.heap.size]? =some (.stringIter t (pos+(Utf8.decode t pos).2)):=by have h1:=(Keep.refl (λ_=>False) wi).junk p |>.alloc (.cells #[pc] 9);rw[h1.block w.heap.size (by omega) (λe=>e),a2]
    refine⟨_,pos+1,acc++[pc],rfl,hW.trans (((Keep.refl (λb=>(Value.slice a0 acc.length cp0).ownBlock=some b) _).grown hgrow (λb hb=>.inl hb)).below (by simp;omega) (λx hx h=>by have:=hlo x h;omega)),?_,by simpa using hown1,λb hb=>?_,⟨b',HC.out,by omega⟩,.inl (by omega),by simp;omega⟩
    .rw[hgrow.block w.heap.size (by simp;omega) (λe=>by have:=hlo _ e.symm;omega)];exact b4
    rcases a3 with h|h
    .exact hlo b (h.symm.trans hb)
    rw[h]at hb;injection hb with hb;omega
   obtain⟨hown1,hgrow,a3⟩:=HX.out;obtain⟨a5,a2,a4,hlo⟩:=HI.out;have b3:w.heap.size<wi.heap.size:=(Array.getElem?_eq_some_iff.1 a2).1;have h1:=(Keep.refl (λ_=>False) wi).junk p |>.alloc (.cells #[pc] 9);have h2:w1.heap[w.heap.size]? =some (.stringIter t (pos+(Utf8.decode t pos).2)):=by rw[hgrow.block w.heap.size (by simp;omega) (λe=>by have:=hlo _ e.symm;omega),h1.block w.heap.size (by omega) (λe=>e),a2]
   rw[gX h2,gX H.out.it];omega
  rw[zA c0]at a1;have a8:∀ww,vR ww 168 #[.string pc] (.int .i64 (cU pc)):=λww=>xP pc ww;have n0:(cU pc==0)=false:=beq_eq_false_iff_ne.2 c0;by_cases c8:cU pc=801
  .rw[zB c8]at a1;have a7:F=(1101,[]):=by have:=HF.out;rw[<-this,<-a1];rfl
   rw[c8]at a8;clear a1;go_wp2_with(go_at_call 168;refine aE (a8 _) λp=>?_)
   go_ret2;refine ?_
   rw[a7];exact Parsed.nil (gT _ _ _ _ HI.out.1 HI.out.1.size)
  rw[zA c8]at a1;have n8:(cU pc==801)=false:=beq_eq_false_iff_ne.2 c8;have a7:F=(1100,[]):=by have:=HF.out;rw[<-this,<-a1];rfl
  clear a1;generalize cU pc=c at a8 n0 n8;go_wp2_with(go_at_call 168;refine aE (a8 _) λp=>?_)
  go_ret2;refine ?_
  rw[a7];exact Parsed.nil (gT _ _ _ _ HI.out.1 HI.out.1.size)
 have b2:∀ty,(Instr.next (.pointer w.heap.size) true ty).run prog wr=_:=λty=>aBJ wr w.heap.size t pos ty a6 hp;by_cases hl:4<acc.length
 .have c3:(4:Int)<acc.length:=by omega
  clear h a6;have b1:R=(0,acc):=by obtain⟨b,hb,_⟩:=H.out.rest;rw[iH s t b pos fr acc hp]at hb;exact hb.symm
  have a7:F=(1102,[]):=by have:=HF.out;rw[<-this,b1];simp[aTI,hl]
  clear b1;go_wp2
  go_ret2;refine ?_
  rw[a7];exact Parsed.nil H.out.bel
 have c3:¬(4:Int)<acc.length:=by omega
 clear h a6;have b1:R=(0,acc):=by obtain⟨b,hb,_⟩:=H.out.rest;rw[iH s t b pos fr acc hp]at hb;exact hb.symm
 have a7:F=(0,acc):=by have:=HF.out;rw[<-this,b1];simp[aTI,hl]
 clear b1;go_wp2
 go_ret2;refine ?_
 try rw[a7]
 exact⟨_,rfl,H.out.bel,H.out.own,λb hb=>Nat.le_of_lt (H.out.loc b hb)⟩
theorem aTK (s:ByteArray) (h:s.toList.isEmpty=false):0<s.size:=by
 rw[zW]at h;rcases Nat.eq_zero_or_pos s.size with h0|h0
 .have:s.data.toList.length=0:=by rw[Array.length_toList];exact h0
  rw[List.length_eq_zero_iff]at this;rw[this]at h;cases h
 exact h0
theorem aOZ (s:ByteArray) (h:s.toList.isEmpty=true):¬0<s.size:=by
 rw[zW]at h;have h2:s.data.toList=[]:=by simpa using h
 have:s.data.toList.length=0:=by rw[h2];rfl
 rw[Array.length_toList]at this;have e:s.size=s.data.size:=rfl;omega
theorem xV (s:ByteArray) (w:World):Calls prog 153 #[s] w (Parsed w (aA s)):=by
 by_cases h64:64<s.size
 .have a0:(64:Int)<s.size:=by omega
  have hM:aA s=(1101,[]):=by simp[aA,h64]
  rw[hM];go_in;go_wp2
  go_ret2;exact(Parsed.nil (bel _ _))
 have a0:¬(64:Int)<s.size:=by omega
 rcases he:s.toList.isEmpty with _|_
 .have h0:=aTK s he;rcases hc:(((s[0]'h0).toNat:Int)==47)with _|_
  .have i3:(((s[0]'h0).toNat:Int) !=47)=true:=by simp[bne,hc]
   have hM:aA s=(1100,[]):=by simp only[aA,zA h64,dif_pos h0,hc];rfl
   rw[hM];go_in;go_wp2
   go_ret2;exact(Parsed.nil (bel _ _))
  by_cases h1:s.size=1
  .have i3:(((s[0]'h0).toNat:Int) !=47)=false:=by simp[bne,hc]
   have i4:((s.size:Int)==1)=true:=beq_iff_eq.2 (by omega);have hM:aA s=(0,[]):=by simp only[aA,zA h64,dif_pos h0,hc,zB h1];rfl
   rw[hM];clear h1;go_in;go_wp2
   go_ret2;exact(Parsed.nil (bel _ _))
  have hM:aA s=aTI (cM s (s++⟨#[47]⟩) (s++⟨#[47]⟩:ByteArray).size 0 1 []):=by simp only[aA,zA h64,dif_pos h0,hc,zA h1];rfl
  rw[hM];exact aKA s w h64 he h0 hc h1 _ rfl
 have h0:=aOZ s he;have hM:aA s=(1100,[]):=by simp only[aA,zA h64,dif_neg h0]
 rw[hM];go_in;go_wp2
 go_ret2;exact(Parsed.nil (bel _ _))
def eE (c:Int):Int:=if c=0 then 0 else if c=1101\/c=1102 then 6 else 9
theorem vQ (c:Int) (w:World):
 vR w 190 #[.int .i64 c] (.int .i64 (eE c)):=by
 by_cases h0:c=0
 .subst h0
  unfold vR;go_in;go_wp2;go_ret;exact gAC
 by_cases h1:c=1101
 .subst h1
  unfold vR;go_in;go_wp2;go_ret;exact gAC
 by_cases h2:c=1102
 .subst h2
  unfold vR;go_in;go_wp2;go_ret;exact gAC
 have e:eE c=9:=by simp[eE,h0,h1,h2]
 rw[e];have b0:(c==0)=false:=beq_eq_false_iff_ne.2 h0;have b1:(c==1101)=false:=beq_eq_false_iff_ne.2 h1;have b2:(c==1102)=false:=beq_eq_false_iff_ne.2 h2;clear h0 h1 h2 e;unfold vR;go_in;go_wp2;go_ret;exact gAC
def RowAt (w:World) (k:Nat) (v:Value) (rows:List (List Value)):Prop:=
 ∃a cap,v=.slice a rows.length cap/\rows.length<=maxLen/\(0<rows.length->∃b off,a=some ⟨b,off,none⟩/\b<w.heap.size/\∀(q:Nat) (cs:List Value),rows[q]? =some cs->∀(t:Nat) (u:Value),cs[t]? =some u->w.cell? ⟨b,off+q*k+t,none⟩=some u)
theorem RowAt.below {w w':World} {B k:Nat} {v:Value} {rows:List (List Value)} (h:RowAt w k v rows) (hb:Below B w w') (hB:w.heap.size<=B):RowAt w' k v rows:=by obtain⟨a,cap,e,hm,hr⟩:=h;refine⟨a,cap,e,hm,λh0=>?_⟩;obtain⟨b,off,e2,hlt,hc⟩:=hr h0;have hs:=hb.size;exact⟨b,off,e2,by omega,λq cs hq t u hu=>(hb.cell (p:=⟨b,off+q*k+t,none⟩) (by show b<B;omega)).trans (hc q cs hq t u hu)⟩
theorem aZM (core made:Int) (h0:0<=core/\core<8) (h1:0<=made/\made<1000000000) (w:World):
 vR w 174 #[.int .i64 core,.int .i64 made] (.int .i64 (2+core+8*made)):=by
 have e1:wrap64 (2+core)=2+core:=by simp only[wrap64];omega
 have e2:wrap64 (8*made)=8*made:=by simp only[wrap64];omega
 have e3:wrap64 (2+core+8*made)=2+core+8*made:=by simp only[wrap64];omega
 unfold vR;go_in;go_wp2;go_ret;exact⟨by first|rfl|simp_all,bel _ _⟩
def jS (x n:Int):Int:=if x<n then -1 else if n<x then 1 else 0
theorem aUO (x n:Int) (d:Bool) (ev:Value) (s:ByteArray) (hev:ev.oneCell'=true) (w:World):
 vR w 135 #[.agg #[x,d,ev,s],.int .i64 n] (.int .i64 (jS x n)):=by
 unfold jS;by_cases h1:x<n
 .rw[zB h1]
  unfold vR;go_in;go_wp2;go_ret;exact gAC
 rw[zA h1];by_cases h2:n<x
 .rw[zB h2]
  unfold vR;go_in;go_wp2;go_ret;exact gAC
 rw[zA h2];unfold vR;go_in;go_wp2;go_ret;exact gAC
structure IRec where
 num:Int
 dir:Bool
 ev:Value
 data:ByteArray
 one:ev.oneCell'=true
def IRec.cells (x:IRec):List Value:=[.int .i64 x.num,.bool x.dir,x.ev,.string x.data]
def dO (f:Nat->Int):Nat->Nat->Nat->Nat
 |0,lo,_=>lo
 |b+1,lo,hi=>if lo<hi then(if f ((lo+hi)/2)<0 then dO f b ((lo+hi)/2+1) hi else dO f b lo ((lo+hi)/2))else lo
theorem rB (f:Nat->Int) (b lo hi:Nat) (h:¬lo<hi):dO f b lo hi=lo:=by
 cases b with
 |zero=>rfl
 |succ b=>simp[dO,h]
def wT (is:List IRec) (n:Int) (q:Nat):Int:=match is[q]? with|some x=>jS x.num n|none=>0
def bsM (is:List IRec) (n:Int):Nat:=dO (wT is n) is.length 0 is.length
def wU (is:List IRec) (n:Int):Bool:=decide (bsM is n<is.length)&&(wT is n (bsM is n)==0)
theorem bAM (is:List IRec) (v:Value) (n:Int) (w:World) (h:RowAt w 4 v (is.map IRec.cells)) (hlen:is.length<=1000000000):
 vR w 134 #[v,.int .i64 n,.func (.func 135) #[] #[]] (.tuple #[.int .i64 (bsM is n),.bool (wU is n)]):=by
 obtain⟨a,cap,rfl,_,hrow⟩:=h;rw[lM]at hrow |-;have cell:∀(wr:World),Bl w wr->∀(q:Nat),q<is.length->∃(b off:Nat) (x:IRec),a=some ⟨b,off,none⟩/\BlockLt b wr/\is[q]? =some x/\wT is n q=jS x.num n/\wr.cell? ⟨b,off+q*4,none⟩=some (.int .i64 x.num)/\wr.cell? ⟨b,off+q*4+1,none⟩=some (.bool x.dir)/\wr.cell? ⟨b,off+q*4+2,none⟩=some x.ev/\wr.cell? ⟨b,off+q*4+3,none⟩=some (.string x.data):=by
  intro wr hb q hq;obtain⟨b,off,rfl,hlt,hc⟩:=hrow (by omega);obtain⟨x,hx⟩:=gAA hq;have hm:(is.map IRec.cells)[q]? =some x.cells:=by rw[gM,hx];rfl
  have hs:=hb.size;have key:∀(t:Nat) (u:Value),x.cells[t]? =some u->wr.cell? ⟨b,off+q*4+t,none⟩=some u:=λt u hu=>(hb.cell (p:=⟨b,_,none⟩) hlt).trans (hc q _ hm t u hu);exact⟨b,off,x,rfl,⟨by omega⟩,hx,by unfold wT;rw[hx],key 0 _ rfl,key 1 _ rfl,key 2 _ rfl,key 3 _ rfl⟩
 have HC:=aC cell;clear cell hrow;obtain⟨P,hP⟩:=gAB (bsM is n);obtain⟨T,hT⟩:=gAB (wU is n);rw[hP,hT];have HP:=bJ hP hT;clear hP hT;unfold vR;go_in;go_wp2
 go_loopw[9,10] (λi j wr=>∃(lo hi b:Nat),i=.int .i64 lo/\j=.int .i64 hi/\lo<=hi/\hi<=is.length/\hi<=lo+b/\dO (wT is n) b lo hi=P/\Bl w wr) (λi j _=>(intOf j-intOf i).toNat)
 case atStart=>exact⟨0,is.length,is.length,rfl,rfl,by omega,by omega,by omega,HP.out.1,bel _ _⟩
 obtain⟨lo,hi,b,rfl,rfl,hlh,hhn,hfu,hbs,hb⟩:=hrel;have iB:Bel w wr:=⟨hb⟩;by_cases hlt:lo<hi
 .obtain⟨b',rfl⟩:∃b',b=b'+1:=⟨b-1,by omega⟩
  obtain⟨m,hm⟩:=gAB ((lo+hi)/2);obtain⟨b0,off,x,rfl,iG,hx,hcm,c0,c1,c2,c3⟩:=HC.out wr hb m (by omega);have a1:=x.one;rw[dO,zB hlt,hm,hcm]at hbs;have HS:=aC hbs;clear hbs hcm;have a6:((lo:Int)+hi)/2=m:=by omega
  have a7:m<is.length:=by omega
  have a4:(m:Int)<is.length:=by omega
  have a0:∀ww,vR ww 135 #[.agg #[x.num,x.dir,x.ev,x.data],.int .i64 n] (.int .i64 (jS x.num n)):=λww=>aUO x.num n x.dir x.ev x.data a1 ww;have HM:=aC hm;clear hm;by_cases hneg:jS x.num n<0
  .generalize hcv:jS x.num n=cv at a0 hneg;go_wp2_with(go_at_call 135;refine aE (a0 _) λp=>?_)
   go_roundw
   case rel=>exact⟨m+1,hi,b',by go_num,rfl,by have:=HM.out;omega,by omega,by have:=HM.out;omega,by have:=HS.out;rw[hcv,zB hneg]at this;exact this,bel _ _⟩
   have:=HM.out;simp[intOf];omega
  generalize hcv:jS x.num n=cv at a0 hneg;go_wp2_with(go_at_call 135;refine aE (a0 _) λp=>?_);go_roundw
  case rel=>exact⟨lo,m,b',rfl,rfl,by have:=HM.out;omega,by omega,by have:=HM.out;omega,by have:=HS.out;rw[hcv,zA (by omega)]at this;exact this,bel _ _⟩
  have:=HM.out;simp[intOf];omega
 obtain rfl:lo=hi:=by omega
 rw[rB _ _ _ _ hlt]at hbs;have a5:P=lo:=hbs.symm;subst a5;by_cases hln:P<is.length
 .obtain⟨b0,off,x,rfl,iG,hx,hcm,c0,c1,c2,c3⟩:=HC.out wr hb P hln;have a1:=x.one;have a3:(P:Int)<is.length:=by omega
  have a0:∀ww,vR ww 135 #[.agg #[x.num,x.dir,x.ev,x.data],.int .i64 n] (.int .i64 (jS x.num n)):=λww=>aUO x.num n x.dir x.ev x.data a1 ww;have a2:T=(jS x.num n==0):=by have h1:=HP.out.2;have h2:=HP.out.1;rw[<-h1];unfold wU;rw[h2,hcm];simp[hln]
  clear hcm;generalize jS x.num n=cv at a0 a2;subst a2;go_wp2_with(go_at_call 135;refine aE (a0 _) λp=>?_)
  go_ret2;refine⟨rfl,bel _ _⟩
 have a3:¬(P:Int)<is.length:=by omega
 have a2:T=false:=by have h1:=HP.out.2;have h2:=HP.out.1;rw[<-h1];unfold wU;rw[h2];simp[hln]
 subst a2;go_wp2
 go_ret2;refine⟨rfl,bel _ _⟩
def aLS (is:List IRec) (n:Int):Int:=if wU is n=true then bsM is n else -1
theorem aVW (is:List IRec) (b off:Nat) (v:Value) (n:Int) (w:World) (ib:BlockLt b w) (c0:w.cell? ⟨b,off,none⟩=some v) (h:RowAt w 4 v (is.map IRec.cells)) (hlen:is.length<=1000000000):
 vR w 102 #[.pointer (some ⟨b,off,none⟩),.int .i64 n] (.int .i64 (aLS is n)):=by
 have a0:=bAM is v n w h hlen;unfold aLS;obtain⟨a,cap,rfl,_,_⟩:=h;rw[lM]at a0 c0;generalize bsM is n=P at a0 |-;generalize wU is n=T at a0 |-;rcases T with _|_
 .simp only[zP,if_false]
  unfold vR;go_in;go_wp2_with(go_at_call 134;refine a0.mono ?_;rintro e w' ⟨rfl,hb⟩;obtain⟨p,rfl⟩:=hb.rest;clear hb);go_ret;exact gAC
 simp only[if_true];unfold vR;go_in;go_wp2_with(go_at_call 134;refine a0.mono ?_;rintro e w' ⟨rfl,hb⟩;obtain⟨p,rfl⟩:=hb.rest;clear hb);go_ret;exact gAC
section
structure PEnt where
 name:ByteArray
 num:Int
deriving DecidableEq
structure PIn where
 num:Int
 dir:Bool
 ents:List PEnt
 data:ByteArray
deriving DecidableEq
structure PDesc where
 core:Int
 fd:Int
 num:Int
deriving DecidableEq
structure PSt where
 ins:List PIn
 op:List PDesc
 made:List Int
deriving DecidableEq
def I64 (x:Int):Prop:=-9223372036854775808<=x/\x<=9223372036854775807
theorem I64.wrap {x:Int} (h:I64 x):IntKind.i64.wrap x=x:=by unfold I64 at h;simp[IntKind.wrap,IntKind.bits,IntKind.signed];omega
def PEnt.cells (x:PEnt):List Value:=[.string x.name,.int .i64 x.num]
def PDesc.cells (x:PDesc):List Value:=[.int .i64 x.core,.int .i64 x.fd,.int .i64 x.num]
def aJ (x:Int):List Value:=[.int .i64 x]
def IRec.is (w:World) (r:IRec) (x:PIn):Prop:=r.num=x.num/\r.dir=x.dir/\r.data=x.data/\RowAt w 2 r.ev (x.ents.map PEnt.cells)
def PSt.wf (S:PSt):Prop:=
 S.ins.length<=1000000000/\S.op.length<=1000000000/\S.made.length<=1000000000/\(∀x∈S.ins,I64 x.num/\x.ents.length<=1000000000/\∀e∈x.ents,I64 e.num)/\(∀d∈S.op,I64 d.core/\I64 d.fd/\I64 d.num)/\∀m∈S.made,I64 m
def StRead (w:World) (iv ov mv:Value) (S:PSt):Prop:=
 RowAt w 3 ov (S.op.map PDesc.cells)/\RowAt w 1 mv (S.made.map aJ)/\∃is:List IRec,RowAt w 4 iv (is.map IRec.cells)/\is.length=S.ins.length/\∀(q:Nat) (r:IRec) (x:PIn),is[q]? =some r->S.ins[q]? =some x->r.is w x
variable {k:Nat} {rows:List (List Value)} {v:Value} {w:World}
theorem StRead.below {w':World} {iv ov mv:Value} {S:PSt} {B:Nat} (h:StRead w iv ov mv S) (hb:Below B w w') (hB:w.heap.size<=B):StRead w' iv ov mv S:=by
 obtain⟨h1,h2,is,h3,h4,h5⟩:=h;exact⟨h1.below hb hB,h2.below hb hB,is,h3.below hb hB,h4,λq r x hr hx=>by
  obtain⟨a1,a2,a3,a4⟩:=h5 q r x hr hx;exact⟨a1,a2,a3,a4.below hb hB⟩⟩
theorem RowAt.one (h:RowAt w k v rows):v.oneCell'=true:=by obtain⟨a,cap,rfl,_⟩:=h;rfl
theorem RowAt.at_ (h:RowAt w k v rows):
 ∃a cap,v=.slice a rows.length cap/\∀wr,Bl w wr->∀(q:Nat) (cs:List Value),rows[q]? =some cs->∃b off,a=some ⟨b,off,none⟩/\BlockLt b w/\BlockLt b wr/\∀(t:Nat) (u:Value),cs[t]? =some u->wr.cell? ⟨b,off+q*k+t,none⟩=some u:=by
 obtain⟨a,cap,rfl,_,hr⟩:=h;refine⟨a,cap,rfl,λwr hb q cs hq=>?_⟩;obtain⟨hlt,_⟩:=gI.1 hq;obtain⟨b,off,rfl,hb0,hc⟩:=hr (by omega);have hs:=hb.size;exact⟨b,off,rfl,⟨hb0⟩,⟨by omega⟩,λt u hu=>(hb.cell (p:=⟨b,_,none⟩) hb0).trans (hc q cs hq t u hu)⟩
def bQ {α:Type} (p:α->Bool):List α->Nat->Int
 |[],_=>-1
 |x::r,q=>if p x=true then(q:Int)else bQ p r (q+1)
def cV {α:Type} (p:α->Bool) (zs:List α):Int:=bQ p zs 0
theorem gQ {α:Type} (p:α->Bool) (zs:List α) (q:Nat) (z:α) (h:zs[q]? =some z):bQ p (zs.drop q) q=if p z=true then(q:Int)else bQ p (zs.drop (q+1)) (q+1):=by obtain⟨hlt,rfl⟩:=gI.1 h;rw[yH hlt];rfl
theorem jN {α:Type} (p:α->Bool) (zs:List α) (q:Nat) (h:¬q<zs.length):bQ p (zs.drop q) q=-1:=by rw[zS (by omega)];rfl
theorem aAO {α:Type} (p:α->Bool) (zs:List α):∀q:Nat,bQ p zs q=-1\/((q:Int)<=bQ p zs q/\bQ p zs q<q+zs.length):=by
 induction zs with
 |nil=>exact λq=>.inl rfl
 | cons z zs ih=>
   intro q;unfold bQ;by_cases h:p z=true
   .rw[zB h];right;simp only[zK];omega
   rw[zA h];rcases ih (q+1)with h|h
   .exact .inl h
   right;simp only[zK]at h |-;omega
theorem lK {α:Type} (p:α->Bool) (zs:List α):cV p zs=-1\/(0<=cV p zs/\cV p zs<zs.length):=by
 rcases aAO p zs 0 with h|h
 .exact .inl h
 right;unfold cV;omega
theorem aHZ {α:Type} (p:α->Bool) (zs:List α):(decide (0<=cV p zs))=zs.any p:=by
 have key:∀(zs:List α) (q:Nat),(decide (0<=bQ p zs q))=zs.any p:=by
  intro zs
  induction zs with
  |nil=>exact λq=>by simp[bQ]
  | cons z zs ih=>
    intro q;rw[any_cons,bQ];by_cases h:p z=true
    .rw[zB h,h];simp
    rw[zA h,ih];simp[h]
 exact key zs 0
theorem aUU (zs:List Int) (v:Value) (p:Int->Bool) (w:World) (h:RowAt w 1 v (zs.map aJ)) (hlen:zs.length<=1000000000)
 (hg:∀(z:Int) (ww:World),z∈zs->Bl w ww->vR ww 99 #[.int .i64 z] (.bool (p z))):
 vR w 129 #[v,.func (.func 99) #[] #[]] (.int .i64 (cV p zs)):=by
 obtain⟨a,cap,rfl,hat⟩:=h.at_;rw[lM];have HA:=aC hat;clear hat h;unfold cV;obtain⟨R,hR⟩:=gAB (bQ p zs 0);rw[hR];have HR:=aC hR;clear hR;unfold vR;go_in;go_wp2
 go_loopw[8] (λi wr=>∃(q:Nat),i=.int .i64 q/\q<=zs.length/\bQ p (zs.drop q) q=R/\Bl w wr) (λi _=>(zs.length-intOf i).toNat)
 case atStart=>exact⟨0,rfl,by omega,HR.out,bel _ _⟩
 obtain⟨q,rfl,hq,hre,hb⟩:=hrel;have iB:Bel w wr:=⟨hb⟩;by_cases hlt:q<zs.length
 .obtain⟨z,hz⟩:=gAA hlt
  obtain⟨b,off,rfl,iG0,iG,hc⟩:=HA.out wr hb q (aJ z) (by rw[gM,hz];rfl);have c0:=hc 0 _ rfl;rw[gQ p zs q z hz]at hre;have a0:vB w 99 #[.int .i64 z] (.bool (p z)):=λww hww=>hg z ww (mG hz) hww;have HZ:=bJ hz hre;clear hc hz hre hg;rw[Nat.mul_one,zN]at c0;generalize hpz:p z=t at a0 HZ;rcases t with _|_
  .go_wp2_with(go_at_call 99;refine aE (a0 _ (bel _ _)) λp=>?_)
   go_roundw
   case rel=>exact⟨q+1,by go_num,by omega,by have:=HZ.out.2;simpa using this,bel _ _⟩
   simp[intOf];omega
  have hv:R=q:=by have:=HZ.out.2;simpa using this.symm
  subst hv;go_wp2_with(go_at_call 99;refine aE (a0 _ (bel _ _)) λp=>?_);go_ret;exact gAC
 rw[jN p zs q hlt]at hre;subst hre;clear hg;go_wp2;go_ret;exact gAC
theorem aUV (zs:List PDesc) (v:Value) (l0:Value) (p:PDesc->Bool) (w:World) (h:RowAt w 3 v (zs.map PDesc.cells)) (hlen:zs.length<=1000000000)
 (hg:∀(z:PDesc) (ww:World),z∈zs->Bl w ww->vR ww 104 #[.agg #[z.core,z.fd,z.num],l0] (.bool (p z))):
 vR w 136 #[v,.func (.func 104) #[] #[l0]] (.int .i64 (cV p zs)):=by
 obtain⟨a,cap,rfl,hat⟩:=h.at_;rw[lM];have HA:=aC hat;clear hat h;unfold cV;obtain⟨R,hR⟩:=gAB (bQ p zs 0);rw[hR];have HR:=aC hR;clear hR;unfold vR;go_in;go_wp2
 go_loopw[8] (λi wr=>∃(q:Nat),i=.int .i64 q/\q<=zs.length/\bQ p (zs.drop q) q=R/\Bl w wr) (λi _=>(zs.length-intOf i).toNat)
 case atStart=>exact⟨0,rfl,by omega,HR.out,bel _ _⟩
 obtain⟨q,rfl,hq,hre,hb⟩:=hrel;have iB:Bel w wr:=⟨hb⟩;by_cases hlt:q<zs.length
 .obtain⟨z,hz⟩:=gAA hlt
  obtain⟨b,off,rfl,iG0,iG,hc⟩:=HA.out wr hb q (PDesc.cells z) (by rw[gM,hz];rfl);have c0:=hc 0 _ rfl;have c1:=hc 1 _ rfl;have c2:=hc 2 _ rfl;rw[gQ p zs q z hz]at hre;have a0:vB w 104 #[.agg #[z.core,z.fd,z.num],l0] (.bool (p z)):=λww hww=>hg z ww (mG hz) hww;have HZ:=bJ hz hre;clear hc hz hre hg;rw[zN]at c0;generalize hpz:p z=t at a0 HZ;rcases t with _|_
  .go_wp2_with(go_at_call 104;refine aE (a0 _ (bel _ _)) λp=>?_)
   go_roundw
   case rel=>exact⟨q+1,by go_num,by omega,by have:=HZ.out.2;simpa using this,bel _ _⟩
   simp[intOf];omega
  have hv:R=q:=by have:=HZ.out.2;simpa using this.symm
  subst hv;go_wp2_with(go_at_call 104;refine aE (a0 _ (bel _ _)) λp=>?_);go_ret;exact gAC
 rw[jN p zs q hlt]at hre;subst hre;clear hg;go_wp2;go_ret;exact gAC
end
def SP (w:World) (b:Nat) (S:PSt):Prop:=b<w.heap.size/\∃iv ov mv,w.cell? b=some iv/\w.cell? ⟨b,1,none⟩=some ov/\w.cell? ⟨b,2,none⟩=some mv/\StRead w iv ov mv S
theorem SP.below {w w':World} {b B:Nat} {S:PSt} (h:SP w b S) (hb:Below B w w') (hB:w.heap.size<=B):SP w' b S:=by obtain⟨hl,iv,ov,mv,c0,c1,c2,hr⟩:=h;have hs:=hb.size;have key:∀o v,w.cell? ⟨b,o,none⟩=some v->w'.cell? ⟨b,o,none⟩=some v:=λo v hv=>(hb.cell (p:=⟨b,o,none⟩) (by show b<B;omega)).trans hv;exact⟨by omega,iv,ov,mv,key _ _ c0,key _ _ c1,key _ _ c2,hr.below hb hB⟩
def eC (n:Int):Bool:=decide (n<0)||decide (32<n)
theorem bBH (n:Int) (w:World):
 vR w 99 #[.int .i64 n] (.bool (eC n)):=by
 unfold eC;by_cases h:n<0
 .unfold vR;go_in
  go_wp2;go_ret;exact⟨by simp[h],bel _ _⟩
 unfold vR;go_in;go_wp2;go_ret;exact⟨by simp;omega,bel _ _⟩
theorem aXB (made:List Int) (v:Value) (w:World) (h:RowAt w 1 v (made.map aJ)) (hlen:made.length<=1000000000):
 vR w 98 #[v,.func (.func 99) #[] #[]] (.bool (made.any eC)):=by
 have hv:=h.one;have hc:∀w',Bl w w'->Calls prog 129 #[v,.func (.func 99) #[] #[]] w' λe w''=>e=.returned (.int .i64 (cV eC made))/\Below w'.heap.size w' w'':=
  λw' hb=>aUU made v eC w' (h.below hb (zC _)) hlen (λz ww _ _=>bBH z ww)
 have ha:=aHZ eC made;generalize made.any eC=A at ha |-;subst ha;generalize cV eC made=R at hc |-;clear h;unfold vR;go_in;go_wp2_with(go_at_call 129;refine aE (hc _ (bel _ _)) λp=>?_);go_ret;exact⟨by first|rfl|simp_all,bel _ _⟩
def dS (made:List Int):Bool:=!(decide (made.length<1)||decide (8<made.length))&&!made.any eC
theorem aQL (b:Nat) (S:PSt) (w:World) (h:SP w b S) (hwf:S.wf):
 vR w 68 #[.pointer b] (.bool (dS S.made)):=by
 obtain⟨hl,iv,ov,mv,c0,c1,c2,hr⟩:=h;have ib:BlockLt b w:=⟨hl⟩;have a0:=hwf.2.2.1;have hc:∀w',Bl w w'->Calls prog 98 #[mv,.func (.func 99) #[] #[]] w' λe w''=>e=.returned (.bool (S.made.any eC))/\Below w'.heap.size w' w'':=
  λw' hb=>aXB S.made mv w' (hr.2.1.below hb (zC _)) a0
 unfold dS;obtain⟨a,cap,rfl,_,_⟩:=hr.2.1;rw[lM]at hc c2;clear hr hwf;generalize S.made.any eC=A at hc |-;by_cases h1:S.made.length<1
 .have a1:(S.made.length:Int)<1:=by omega
  unfold vR;go_in;go_wp2;go_ret;exact⟨by simp[h1],bel _ _⟩
 have a1:¬(S.made.length:Int)<1:=by omega
 by_cases h2:8<S.made.length
 .have a2:(8:Int)<S.made.length:=by omega
  unfold vR;go_in;go_wp2;go_ret;exact⟨by simp[h2],bel _ _⟩
 have a2:¬(8:Int)<S.made.length:=by omega
 unfold vR;go_in;go_wp2_with(go_at_call 98;refine aE (hc _ (bel _ _)) λp=>?_);go_ret;exact⟨by simp[h1,h2],bel _ _⟩
def aDO (n:Int):Int:=if n<2 then -1 else(n-2)%8
theorem aXC (n:Int) (h:I64 n) (w:World):
 vR w 130 #[.int .i64 n] (.int .i64 (aDO n)):=by
 unfold I64 at h;unfold aDO;by_cases h1:n<2
 .unfold vR;go_in
  go_wp2;go_ret;exact⟨by simp[h1],bel _ _⟩
 have e1:wrap64 (n-2)=n-2:=by simp only[wrap64];omega
 have e2:(n-2).tmod 8=(n-2)%8:=Int.tmod_eq_emod_of_nonneg (by omega);have e3:wrap64 ((n-2)%8)=(n-2)%8:=by simp only[wrap64];omega
 rw[zA h1];generalize hR:(n-2)%8=R at *;have HR:=aC hR;clear hR;unfold vR;go_in;go_wp2;go_ret;exact⟨by simp_all,bel _ _⟩
theorem aXD (n:Int) (h:I64 n) (h2:2<=n) (w:World):
 vR w 131 #[.int .i64 n] (.int .i64 ((n-2)/8)):=by
 unfold I64 at h;have e1:wrap64 (n-2)=n-2:=by simp only[wrap64];omega
 have e2:(n-2).tdiv 8=(n-2)/8:=Int.tdiv_eq_ediv_of_nonneg (by omega);have e3:wrap64 ((n-2)/8)=(n-2)/8:=by simp only[wrap64];omega
 generalize hR:(n-2)/8=R at *;have HR:=aC hR;clear hR;unfold vR;go_in;go_wp2;go_ret;exact⟨by simp_all,bel _ _⟩
def dL (made:List Int) (n:Int):Bool:=if n<2 then false else match made[((n-2)%8).toNat]? with|some m=>decide ((n-2)/8<m)|none=>false
theorem aQM (b:Nat) (S:PSt) (n:Int) (w:World) (h:SP w b S) (hwf:S.wf) (hn:I64 n):
 vR w 100 #[.pointer b,.int .i64 n] (.bool (dL S.made n)):=by
 obtain⟨hl,iv,ov,mv,c0,c1,c2,hr⟩:=h;have ib:BlockLt b w:=⟨hl⟩;have a3:=hwf.2.2.1;have a0:∀w,Calls prog 130 #[n] w _:=λw=>aXC n hn w;obtain⟨a,cap,rfl,hat⟩:=hr.2.1.at_;have HA:=aC hat;rw[lM]at c2;clear hr hwf hat;unfold dL;by_cases h1:n<2
 .have a1:aDO n=-1:=by simp[aDO,h1]
  rw[a1]at a0;rw[zB h1];unfold vR;go_in;go_wp2_with((go_at_call 130;refine aE (a0 _) λp=>?_));refine qR ?_
  repeat(go_big_quiet_step (fail))
  refine QN λp=>?_;go_wp2;go_ret;exact gAC
 have a2:∀w,Calls prog 131 #[n] w _:=λw=>aXD n hn (by omega) w;have a1:aDO n=(n-2)%8:=by simp[aDO,h1]
 obtain⟨q,hq⟩:∃q:Nat,(n-2)%8=q:=⟨((n-2)%8).toNat,by omega⟩;rw[zA h1,hq,zJ];rw[a1,hq]at a0;generalize(n-2)/8=k at a2 |-;have HQ:=aC hq;clear hq a1;by_cases h2:q<S.made.length
 .obtain⟨m,hm⟩:=gAA h2
  rw[hm];obtain⟨b1,off,rfl,iG0,-,hc⟩:=HA.out w (bel _ _) q (aJ m) (by rw[gM,hm];rfl);have c3:=hc 0 _ rfl;rw[Nat.mul_one,zN]at c3;have a4:(q:Int)<S.made.length:=by omega
  have HM:=aC hm;clear hm hc;unfold vR;go_in;go_wp2_with((go_at_call 130;refine aE (a0 _) λp=>?_));refine qR ?_
  repeat(go_big_quiet_step ((first|refine cI (a2 _)|refine cJ (a2 _))))
  refine QN λp=>?_;go_wp2;go_ret;exact⟨by first|rfl|simp_all,bel _ _⟩
 have a4:¬(q:Int)<S.made.length:=by omega
 rw[getElem?_eq_none (by omega)];unfold vR;go_in;go_wp2_with((go_at_call 130;refine aE (a0 _) λp=>?_));refine qR ?_
 repeat(go_big_quiet_step (fail))
 refine QN λp=>?_;go_wp2;go_ret;exact⟨by first|rfl|simp_all,bel _ _⟩
def tK (ns:List Int) (n:Int) (q:Nat):Int:=match ns[q]? with|some x=>jS x n|none=>0
def bsN (ns:List Int) (n:Int):Nat:=dO (tK ns n) ns.length 0 ns.length
def aK (ns:List Int) (n:Int):Int:=if(decide (bsN ns n<ns.length)&&(tK ns n (bsN ns n)==0))=true then(bsN ns n:Int)else -1
theorem aRS (is:List IRec) (n:Int):aLS is n=aK (is.map IRec.num) n:=by
 have hc:wT is n=tK (is.map IRec.num) n:=by
  funext q;unfold wT tK;rw[gM];cases is[q]? <;>rfl
 unfold aLS aK wU bsN;rw[hc];unfold bsM;rw[hc,lM]
theorem cX (ns:List Int) (n:Int):aK ns n=-1\/(0<=aK ns n/\aK ns n<ns.length):=by
 unfold aK;by_cases h:(decide (bsN ns n<ns.length)&&(tK ns n (bsN ns n)==0))=true
 .rw[zB h];simp at h;right;omega
 rw[zA h];exact .inl rfl
def PSt.nums (S:PSt):List Int:=S.ins.map PIn.num
theorem jU (b:Nat) (S:PSt) (n:Int) (w:World) (h:SP w b S) (hwf:S.wf):
 vR w 102 #[.pointer b,.int .i64 n] (.int .i64 (aK S.nums n)):=by
 obtain⟨hl,iv,ov,mv,c0,c1,c2,_,_,is,h3,h4,h5⟩:=h;have hn:is.map IRec.num=S.nums:=by
  apply ext_getElem?;intro q;rw[PSt.nums,gM,gM];by_cases hq:q<is.length
  .have a0:q<S.ins.length:=by omega
   have:=(h5 q is[q] S.ins[q] (gE hq) (gE a0)).1;rw[gE hq,gE a0];simp[this]
  rw[getElem?_eq_none (by omega),getElem?_eq_none (by omega)];rfl
 rw[<-hn,<-aRS];exact aVW is b 0 iv n w ⟨hl⟩ c0 h3 (by have:=hwf.1;omega)
theorem cQ {α:Type} {zs:List α} {q:Nat} {z:α} (h:zs[q]? =some z):zs.drop q=z::zs.drop (q+1):=by obtain⟨hlt,rfl⟩:=gI.1 h;exact yH hlt
def hY (prev:Option ByteArray) (s:ByteArray):Bool:=match prev with|some p=>!Op.bytesLess p.toList s.toList|none=>false
def fA (ns:List Int):Option ByteArray->List Int->List PEnt->Bool
 |_,_,[]=>true
 | prev,sl,e::r=>
   if dP e.name=false then false else if hY prev e.name=true then false else if e.num=1 then false else if aK ns e.num<0 then false else
   match sl[(aV e.name).toNat]? with
   |some x=>if 4<x+1 then false else fA ns (some e.name) (sl.set (aV e.name).toNat (x+1)) r
   |none=>false
def kK (ns:List Int) (es:List PEnt):Bool:=fA ns none [0,0,0,0,0,0,0,0] es
theorem gS (s:ByteArray):0<=aV s/\aV s<8:=by unfold aV;omega
def dY (es:List PEnt) (q:Nat):Option ByteArray:=if q=0 then none else(es[q-1]?).map PEnt.name
theorem aIV (b : Nat) (S:PSt) (es:List PEnt) (v:Value) (w:World) (h:SP w b S) (hwf:S.wf) (he:RowAt w 2 v (es.map PEnt.cells)) (hlen:es.length<=1000000000):
 vR w 101 #[.pointer b,v] (.bool (kK S.nums es)):=by
 have hf:∀ww,Bl w ww->∀n,vR ww 102 #[.pointer b,.int .i64 n] (.int .i64 (aK S.nums n)):=
  λww hb n=>jU b S n ww (h.below hb (zC _)) hwf
 have ib:BlockLt b w:=⟨h.1⟩;obtain⟨a,cap,rfl,hat⟩:=he.at_;have HA:=aC hat;clear h hwf he hat;rw[lM];generalize S.nums=ns at hf |-;unfold kK;obtain⟨R,hR⟩:=gAB (fA ns none [0,0,0,0,0,0,0,0] es);rw[hR];have HR:=aC hR;clear hR;unfold vR;go_in;go_wp2
 go_loopw[11] (λi wr=>∃(q:Nat) (sl:List Int),i=.int .i64 q/\q<=es.length/\sl.length=8/\(∀(k:Nat) (x:Int),sl[k]? =some x->0<=x/\x<=4)/\fA ns (dY es q) sl (es.drop q)=R/\Bl w wr/\Blk wr w.heap.size (sl.map λx=>.int .i64 x).toArray 158) (λi _=>(es.length-intOf i).toNat)
 case atStart=>
  refine⟨0,[0,0,0,0,0,0,0,0],rfl,by omega,rfl,?_,HR.out,bel _ _,?_⟩
  .intro k x hk;have:=mG hk;simp at this;omega
  exact Blk.new w _ 158
 obtain⟨q,sl,rfl,hq,hsl,hsb,hre,hb,hblk⟩:=hrel;have iB:Bel w wr:=⟨hb⟩;by_cases hlt:q<es.length
 .obtain ⟨z, hz⟩:∃z,es[q]? =some z:=⟨_,gE hlt⟩
  obtain⟨b1,off,rfl,iG0,iG,hc⟩:=HA.out wr hb q z.cells (by rw[gM,hz];rfl);have c0:=hc 0 _ rfl;have c1:=hc 1 _ rfl;rw[zN]at c0;have iL:BlockLt w.heap.size wr:=hblk.lt;have b6:BlockLt b wr:=⟨by have:=hb.size;have:=ib.lt;omega⟩;rw[cQ hz]at hre;unfold fA at hre;have a0:∀ww,Calls prog 132 #[z.name] ww _:=λww=>aTB z.name ww;have a3:∀ww,Calls prog 133 #[z.name] ww _:=λww=>nB z.name ww;have a1:vB w 102 #[.pointer b,.int .i64 z.num] (.int .i64 (aK ns z.num)):=λww hww=>hf ww hww z.num;have HZ:=aC hz;have HB:=aC hblk;have HS:=bJ hsl hsb;clear hc hz hf hblk hsl hsb;by_cases hn:dP z.name=false
  .rw[hn]at a0;rw[zB hn]at hre;subst hre;clear hn;go_wp2;refine qR ?_
   repeat(go_big_quiet_step (first|(first|refine cI (a0 _)|refine cJ (a0 _))|(first|refine cI (a1 _ (bel _ _))|refine cJ (a1 _ (bel _ _)))))
   refine QN λp=>?_;go_wp2;go_ret;exact gAC
  have hn : dP z.name=true:=by simpa using hn
  rw [hn]at a0;rw[hn,zA (by decide)]at hre;have HN:=aC hn;clear hn;have a6:q=0/\dY es q=none\/∃(k:Nat) (y:PEnt),q=k+1/\es[k]? =some y/\dY es q=some y.name:=by
   by_cases hq0:q=0
   .exact .inl ⟨hq0,by simp[dY,hq0]⟩
   have hk:q-1<es.length:=by omega
   refine .inr ⟨q-1,es[q-1],by omega,gE hk,?_⟩;unfold dY;rw[zA hq0,gE hk];rfl
  have a2:(∃(qz:(q:Int)=0),hY (dY es q) z.name=false)\/∃(k:Nat) (y:PEnt),(q:Int)-1=k/\k<es.length/\0<(q:Int)/\hY (dY es q) z.name=(!Op.bytesLess y.name.toList z.name.toList)/\wr.cell? ⟨b1,off+k*2,none⟩=some (.string y.name):=by
   rcases a6 with⟨h0,hp⟩|⟨k,y,hk,hy,hp⟩
   .exact .inl ⟨by omega,by rw[hp];rfl⟩
   refine .inr ⟨k,y,by omega,by omega,by omega,by rw[hp];rfl,?_⟩;obtain⟨b2,off2,he2,_,_,hc2⟩:=HA.out wr hb k y.cells (by rw[gM,hy];rfl);cases he2;exact hc2 0 _ rfl
  clear a6;generalize hpb:hY (dY es q) z.name=pb at hre a2;clear hpb;obtain⟨bk,hbkv⟩:∃bk:Nat,aV z.name=bk:=⟨(aV z.name).toNat,by have:=gS z.name;omega⟩;have a9:bk<8:=by have:=gS z.name;omega
  have a7:(bk:Int)<8:=by omega
  obtain⟨x,hx⟩:∃x,sl[bk]? =some x:=⟨_,gE (by have:=HS.out.1;omega)⟩;obtain⟨hx0,hx4⟩:=HS.out.2 bk x hx;have c3:wr.cell? ⟨w.heap.size,bk,none⟩=some (.int .i64 x):=by rw[HB.out.cell bk];simp[hx]
  have fz:wr.frozen? ⟨w.heap.size,bk,none⟩=false:=HB.out.frozen bk;rw[hbkv,zJ,hx]at hre;simp only at hre;rw[hbkv]at a3;clear hbkv;have HX:=aC hx;clear hx;have ew:IntKind.i64.wrap (x+1)=x+1:=I64.wrap ⟨by omega,by omega⟩;have a8:∀(wz:World),Bel w wz->Blk wz w.heap.size ((sl.map λx=>Value.int .i64 x).toArray.setIfInBounds bk (.int .i64 (x+1))) 158->¬4<x+1->fA ns (some z.name) (sl.set bk (x+1)) (es.drop (q+1))=R->
   ∃(q':Nat) (sl:List Int),Value.int .i64 ((q:Int)+1)=.int .i64 q'/\q'<=es.length/\sl.length=8/\(∀(k:Nat) (x:Int),sl[k]? =some x->0<=x/\x<=4)/\fA ns (dY es q') sl (es.drop q')=R/\Bl w wz/\Blk wz w.heap.size (sl.map λx=>.int .i64 x).toArray 158:=by
   intro wz hwz hbz hx5 hr;refine⟨q+1,sl.set bk (x+1),by rfl,by omega,by rw[yB];exact HS.out.1,?_,?_,hwz.below,?_⟩
   .intro k u hu;by_cases hkb:bk=k
    .subst hkb;have b0:bk<sl.length:=by have:=HS.out.1;omega
     rw[zY b0]at hu;cases hu;omega
    rw[zX hkb]at hu;exact HS.out.2 k u hu
   .have hp:dY es (q+1)=some z.name:=by
     unfold dY;rw[zA (by omega),Nat.add_sub_cancel,HZ.out];rfl
    rw[hp];exact hr
   rw[sA,<-map_set]at hbz;exact hbz
  have a5:=aC a8;clear a8;rcases a2 with⟨hq0,rfl⟩|⟨k,y,hk1,hkl,hq1,rfl,c2⟩
  .obtain rfl:q=0:=by omega
   simp only[Nat.zero_mul,zN]at c0 c1;rw[zA (by decide)]at hre;by_cases h1:z.num=1
   .rw[zB h1]at hre;subst hre;go_wp2;refine qR ?_
    repeat(go_big_quiet_step (first|(first|refine cI (a0 _)|refine cJ (a0 _))|(first|refine cI (a1 _ (bel _ _))|refine cJ (a1 _ (bel _ _)))))
    refine QN λp=>?_;go_wp2;go_ret;exact gAC
   rw [zA h1]at hre;have b3:(z.num==1)=false:=by simpa using h1
   generalize aK ns z.num=fv at a1 hre;by_cases h2:fv<0
   .rw[zB h2]at hre;subst hre;go_wp2;refine qR ?_
    repeat(go_big_quiet_step (first|(first|refine cI (a0 _)|refine cJ (a0 _))|(first|refine cI (a1 _ (bel _ _))|refine cJ (a1 _ (bel _ _)))))
    refine QN λp=>?_;go_wp2;go_ret;exact gAC
   rw [zA h2]at hre;by_cases h3:4<x+1
   .rw[zB h3]at hre;subst hre;go_wp2;refine qR ?_
    repeat(go_big_quiet_step (first|(first|refine cI (a0 _)|refine cJ (a0 _))|(first|refine cI (a1 _ (bel _ _))|refine cJ (a1 _ (bel _ _)))))
    refine QN λp=>?_;go_wp2_with((go_at_call 133;refine aE (a3 _) λp=>?_));go_ret;exact gAC
   rw[zA h3]at hre;have a4:=aC hre;clear hre;go_wp2;refine qR ?_
   repeat(go_big_quiet_step (first|(first|refine cI (a0 _)|refine cJ (a0 _))|(first|refine cI (a1 _ (bel _ _))|refine cJ (a1 _ (bel _ _)))))
   refine QN λp=>?_;go_wp2_with((go_at_call 133;refine aE (a3 _) λp=>?_));go_roundw
   case rel=>
    first|exact a5.out _ ⟨bel _ _⟩ (((HB.out.set_ _ _).alloc _).junk _) h3 a4.out|(simpa using a5.out _ ⟨bel _ _⟩ (((HB.out.set_ _ _).alloc _).junk _) h3 a4.out)
   simp[intOf];omega
  have b4 :0<q:=by omega
  have b7:IntKind.i64.wrap (k:Int)=k:=I64.wrap ⟨by omega,by omega⟩;by_cases h0:Op.bytesLess y.name.toList z.name.toList=true
  .rw [h0,Bool.not_true,zA (by decide)]at hre;by_cases h1:z.num=1
   .rw[zB h1]at hre;subst hre;go_wp2;refine qR ?_
    repeat(go_big_quiet_step (first|(first|refine cI (a0 _)|refine cJ (a0 _))|(first|refine cI (a1 _ (bel _ _))|refine cJ (a1 _ (bel _ _)))))
    refine QN λp=>?_;go_wp2;go_ret;exact gAC
   rw [zA h1]at hre;have b3:(z.num==1)=false:=by simpa using h1
   generalize aK ns z.num=fv at a1 hre;by_cases h2:fv<0
   .rw[zB h2]at hre;subst hre;go_wp2;refine qR ?_
    repeat(go_big_quiet_step (first|(first|refine cI (a0 _)|refine cJ (a0 _))|(first|refine cI (a1 _ (bel _ _))|refine cJ (a1 _ (bel _ _)))))
    refine QN λp=>?_;go_wp2;go_ret;exact gAC
   rw [zA h2]at hre;by_cases h3:4<x+1
   .rw[zB h3]at hre;subst hre;go_wp2;refine qR ?_
    repeat(go_big_quiet_step (first|(first|refine cI (a0 _)|refine cJ (a0 _))|(first|refine cI (a1 _ (bel _ _))|refine cJ (a1 _ (bel _ _)))))
    refine QN λp=>?_;go_wp2_with((go_at_call 133;refine aE (a3 _) λp=>?_));go_ret;exact gAC
   rw[zA h3]at hre;have a4:=aC hre;clear hre;go_wp2;refine qR ?_
   repeat(go_big_quiet_step (first|(first|refine cI (a0 _)|refine cJ (a0 _))|(first|refine cI (a1 _ (bel _ _))|refine cJ (a1 _ (bel _ _)))))
   refine QN λp=>?_;go_wp2_with((go_at_call 133;refine aE (a3 _) λp=>?_));go_roundw
   case rel=>
    first|exact a5.out _ ⟨bel _ _⟩ (((HB.out.set_ _ _).alloc _).junk _) h3 a4.out|(simpa using a5.out _ ⟨bel _ _⟩ (((HB.out.set_ _ _).alloc _).junk _) h3 a4.out)
   simp[intOf];omega
  have h0:Op.bytesLess y.name.toList z.name.toList=false:=by simpa using h0
  rw[h0,Bool.not_false,zB rfl]at hre;subst hre;go_wp2;refine qR ?_
  repeat(go_big_quiet_step (first|(first|refine cI (a0 _)|refine cJ (a0 _))|(first|refine cI (a1 _ (bel _ _))|refine cJ (a1 _ (bel _ _)))))
  refine QN λp=>?_;go_wp2;go_ret;exact gAC
 rw[zS (by omega)]at hre;have b5:true=R:=by rw[<-hre];rfl
 subst b5;clear hf hre;go_wp2;go_ret;exact gAC
theorem StRead.ins_at {w:World} {iv ov mv:Value} {S:PSt} (h:StRead w iv ov mv S):
 ∃a cap,iv=.slice a S.ins.length cap/\∀wr,Bl w wr->∀(q:Nat) (x:PIn),S.ins[q]? =some x->∃b off ev,a=some ⟨b,off,none⟩/\BlockLt b w/\BlockLt b wr/\ev.oneCell'=true/\RowAt wr 2 ev (x.ents.map PEnt.cells)/\
  wr.cell? ⟨b,off+q*4,none⟩=some (.int .i64 x.num)/\wr.cell? ⟨b,off+q*4+1,none⟩=some (.bool x.dir)/\wr.cell? ⟨b,off+q*4+2,none⟩=some ev/\wr.cell? ⟨b,off+q*4+3,none⟩=some (.string x.data):=by
 obtain⟨_,_,is,h3,h4,h5⟩:=h;obtain⟨a,cap,rfl,hat⟩:=h3.at_;rw[lM];refine⟨a,cap,by rw[h4],λwr hb q x hx=>?_⟩;obtain⟨hq,_⟩:=gI.1 hx;have hr:is[q]? =some is[q]:=gE (by omega);obtain⟨b,off,rfl,i1,i2,hc⟩:=hat wr hb q is[q].cells (by rw[gM,hr];rfl);obtain⟨e1,e2,e3,e4⟩:=h5 q _ x hr hx;refine⟨b,off,is[q].ev,rfl,i1,i2,is[q].one,e4.below hb (zC _),?_,?_,?_,?_⟩
 .rw[<-e1];exact hc 0 _ rfl
 .rw[<-e2];exact hc 1 _ rfl
 .exact hc 2 _ rfl
 rw[<-e3];exact hc 3 _ rfl
def nZ (made:List Int):Int->List Int->Bool
 |_,[]=>true
 |p,n::r=>if n<=p then false else if dL made n=false then false else nZ made n r
def inB (ns:List Int) (x:PIn):Bool:=if x.dir then(x.data.toList.isEmpty&&kK ns x.ents)else(decide (x.ents.length=0)&&decide (x.data.size<=256))
def dW (S:PSt):Bool:=
 match S.ins with
 |[]=>false
 |x::r=>if x.num=1 then(if x.dir=true then nZ S.made 1 (r.map PIn.num)&&S.ins.all (inB S.nums)else false)else false
theorem aSC {α:Type} {zs:List α} {q:Nat} {z:α} (p:α->Bool) (h:zs[q]? =some z):(zs.drop q).all p=(p z&&(zs.drop (q+1)).all p):=by rw[cQ h];rfl
theorem aSD (b : Nat) (S:PSt) (w:World) (h:SP w b S) (hwf:S.wf):
 vR w 69 #[.pointer b] (.bool (dW S)):=by
 have a1:∀ww,Bl w ww->∀n,I64 n->vR ww 100 #[.pointer b,.int .i64 n] (.bool (dL S.made n)):=
  λww hb n hn=>aQM b S n ww (h.below hb (zC _)) hwf hn
 have a2:∀ww,Bl w ww->∀ev es,RowAt ww 2 ev (es.map PEnt.cells)->es.length<=1000000000->vR ww 101 #[.pointer b,ev] (.bool (kK S.nums es)):=
  λww hb ev es he hl=>aIV b S es ev ww (h.below hb (zC _)) hwf he hl
 obtain⟨hl,iv,ov,mv,c0,c1,c2,hr⟩:=h;have ib:BlockLt b w:=⟨hl⟩;have b8:=hwf.1;have b1:=hwf.2.2.2.1;obtain⟨a,cap,rfl,hat⟩:=hr.ins_at;have HA:=aC hat;have HW:=aC b1;clear hr hwf hat b1 c1 c2;obtain⟨R,hR⟩:=gAB (dW S);rw[hR];unfold dW at hR;rcases hins:S.ins with _|⟨x,r⟩
 .rw[hins]at hR;simp only at hR;subst hR;have a4:S.ins.length=0:=by rw[hins];rfl
  rw[a4]at c0;unfold vR;go_in;go_wp2;go_ret;exact gAC
 rw [hins] at hR;simp only at hR;have hx:S.ins[0]? =some x:=by rw[hins];rfl
 have a8:0<S.ins.length:=by rw[hins];simp
 have b2:S.nums.drop 1=r.map PIn.num:=by unfold PSt.nums;rw[hins];rfl
 rw[<-hins,<-b2]at hR;obtain⟨bi,off,ev,rfl,iG0,-,ho,-,d0,d1,d2,d3⟩:=HA.out w (bel _ _) 0 x hx;rw[Nat.zero_mul,zN]at d0 d1 d2 d3;have a5:¬(S.ins.length:Int)=0:=by omega
 have b3:((S.ins.length:Int)==0)=false:=by simpa using a5
 have HI:=bJ hins hx;clear hins hx b2;by_cases h1:x.num=1
 .rw [zB h1] at hR;have b4:=h1;rw[h1]at d0;by_cases h2:x.dir=true
  .rw [zB h2]at hR;rw[h2]at d1;clear h1 h2;obtain⟨N,hN⟩:=gAB (nZ S.made 1 (S.nums.drop 1))
   obtain⟨A,hA⟩:=gAB (S.ins.all (inB S.nums));rw[hN,hA]at hR;have HN:=eH hN hA b4;clear hN hA b4;unfold vR;go_in;go_wp2
   go_loopw[3] (λi wr=>∃(q k:Nat) (y:PIn),i=.int .i64 q/\q=k+1/\q<=S.ins.length/\S.ins[k]? =some y/\nZ S.made y.num (S.nums.drop q)=N/\Bl w wr) (λi _=>(S.ins.length-intOf i).toNat)
   case atStart=>exact⟨1,0,x,rfl,rfl,a8,HI.out.2,by rw[HN.out.2.2];exact HN.out.1,bel _ _⟩
   obtain⟨q,k,y,rfl,hqk,hq,hy,hre,hb⟩:=hrel;have iB:Bel w wr:=⟨hb⟩;have b9:BlockLt b wr:=⟨by have:=hb.size;have:=ib.lt;omega⟩;have c3:BlockLt bi wr:=⟨by have:=hb.size;have:=iG0.lt;omega⟩;have c8:wr.cell? b=some (.slice (some ⟨bi,off,none⟩) S.ins.length cap):=(hb.cell (p:=b) ib.lt).trans c0;by_cases hlt:q<S.ins.length
   .obtain ⟨z,hz⟩:∃z,S.ins[q]? =some z:=⟨_,gE hlt⟩
    have b5:S.nums[q]? =some z.num:=by unfold PSt.nums;rw[gM,hz];rfl
    rw[cQ b5]at hre;unfold nZ at hre;obtain⟨_,_,ev1,he1,_,_,_,_,y0,_,_,_⟩:=HA.out wr hb k y hy;cases he1;obtain⟨_,_,ev2,he2,_,_,_,_,z0,_,_,_⟩:=HA.out wr hb q z hz;cases he2;have b6:=(HW.out z (mG hz)).1;have a3:∀ww,Bl w ww->Calls prog 100 #[.pointer b,z.num] ww _:=λww hww=>a1 ww hww z.num b6;have e1:(q:Int)-1=k:=by omega
    have c9:k<S.ins.length:=by omega
    have e2:IntKind.i64.wrap (k:Int)=k:=I64.wrap ⟨by omega,by omega⟩;have d4:=aC hqk;have HZ:=aC hz;have a9:(q:Int)<S.ins.length:=by omega
    clear hqk hz b5 a1 a2 hy b6;by_cases h1:z.num<=y.num
    .rw[zB h1]at hre;subst hre;simp only[yJ]at hR;subst hR;go_wp2_with fail;refine bY (by kernel_rfl) (by kernel_rfl) (WQ.out ?_)
     repeat
      refine sB (λK hK=>?_);go_simp
      first
       |(refine hK _ ?_;clear hK K)
       | (apply Exists.intro
          refine⟨λ_=>?_,hK _ ?_⟩
          focus((first|refine cI (a3 _ (bel _ _))|refine cJ (a3 _ (bel _ _))))
          clear hK K)
     refine WN λp=>?_;go_wp2;go_ret;exact gAC
    rw [zA h1]at hre;generalize dL S.made z.num=mb at a3 hre;rcases mb with _|_
    .rw[zB rfl]at hre;subst hre;simp only[yJ]at hR;subst hR;go_wp2_with fail;refine bY (by kernel_rfl) (by kernel_rfl) (WQ.out ?_)
     repeat
      refine sB (λK hK=>?_);go_simp
      first
       |(refine hK _ ?_;clear hK K)
       | (apply Exists.intro
          refine⟨λ_=>?_,hK _ ?_⟩
          focus((first|refine cI (a3 _ (bel _ _))|refine cJ (a3 _ (bel _ _))))
          clear hK K)
     refine WN λp=>?_;go_wp2;go_ret;exact gAC
    rw[zA (by decide)]at hre;have a0:=aC hre;clear hre;go_wp2_with fail;refine bY (by kernel_rfl) (by kernel_rfl) (WQ.out ?_)
    repeat
     refine sB (λK hK=>?_);go_simp
     first
      |(refine hK _ ?_;clear hK K)
      | (apply Exists.intro
         refine⟨λ_=>?_,hK _ ?_⟩
         focus((first|refine cI (a3 _ (bel _ _))|refine cJ (a3 _ (bel _ _))))
         clear hK K)
    refine WN λp=>?_;go_wp2;go_roundw
    case rel=>exact⟨q+1,q,z,by go_num,rfl,hlt,HZ.out,a0.out,bel _ _⟩
    simp[intOf];omega
   have b7:q=S.ins.length:=by omega
   have c4:S.nums.length=S.ins.length:=by unfold PSt.nums;rw[lM]
   rw[zS (by omega)]at hre;have c5:N=true:=by rw[<-hre];rfl
   subst c5;rw[xC]at hR;have HQ:=aC b7;have a9:¬(q:Int)<S.ins.length:=by omega
   clear hre b7 c4 hy hqk;go_wp2
   go_loopw[77] (λi w2=>∃(q:Nat),i=.int .i64 q/\q<=S.ins.length/\(S.ins.drop q).all (inB S.nums)=A/\Bl w w2) (λi _=>(S.ins.length-intOf i).toNat)
   case atStart=>exact⟨0,rfl,by omega,HN.out.2.1,bel _ _⟩
   obtain⟨q,rfl,hq,hre,hb⟩:=hrel;have iB:Bel w wr:=⟨hb⟩;have b9:BlockLt b wr:=⟨by have:=hb.size;have:=ib.lt;omega⟩;have c3:BlockLt bi wr:=⟨by have:=hb.size;have:=iG0.lt;omega⟩;by_cases hlt:q<S.ins.length
   .obtain⟨z,hz⟩:=gAA hlt
    rw[aSC _ hz]at hre;obtain⟨_,_,ev1,he1,_,_,ho1,hev,y0,y1,y2,y3⟩:=HA.out wr hb q z hz;cases he1;have c6:z.ents.length<=1000000000:=(HW.out z (mG hz)).2.1;have a6:∀ww,Bl wr ww->Calls prog 101 #[.pointer b,ev1] ww _:=λww hww=>a2 ww (hb.trans (hww.mono hb.size)) ev1 z.ents (hev.below hww (zC _)) c6;obtain⟨ae,ce,rfl,-⟩:=hev;rw[lM]at a6 y2;have a0:=aC hre;have HZ:=aC hz;clear hz hre a2 a1 ho1;rw[show inB S.nums z=if z.dir then(z.data.toList.isEmpty&&kK S.nums z.ents)else(decide (z.ents.length=0)&&decide (z.data.size<=256))from rfl]at a0;by_cases hd:z.dir=true
    .rw [zB hd]at a0;rw[hd]at y1;clear hd;by_cases a7:z.data.toList.isEmpty=true
     .rw[a7]at a0;generalize kK S.nums z.ents=mb at a6 a0;rcases mb with _|_
      .have hA:A=false:=by have:=a0.out;simpa using this.symm
       subst hA;subst hR;go_wp2_with((go_at_call 101;refine aE (a6 _ (bel _ _)) λp=>?_));go_ret;exact gAC
      go_wp2_with((go_at_call 101;refine aE (a6 _ (bel _ _)) λp=>?_));go_roundw
      case rel=>exact⟨q+1,by go_num,by omega,by have:=a0.out;simpa using this,bel _ _⟩
      simp[intOf];omega
     have a7:z.data.toList.isEmpty=false:=by simpa using a7
     have hA:A=false:=by have:=a0.out;rw[a7]at this;simpa using this.symm
     subst hA;subst hR;go_wp2;go_ret;exact gAC
    rw [zA hd]at a0;have hd:z.dir=false:=by simpa using hd
    rw[hd]at y1;clear hd;by_cases a4:z.ents.length=0
    .by_cases hsz:z.data.size<=256
     .have b0:¬(256:Int)<z.data.size:=by omega
      go_wp2;go_roundw
      case rel=>exact⟨q+1,by go_num,by omega,by have:=a0.out;simpa[a4,hsz]using this,bel _ _⟩
      simp[intOf];omega
     have b0:(256:Int)<z.data.size:=by omega
     have hA:A=false:=by have:=a0.out;simpa[a4,hsz]using this.symm
     subst hA;subst hR;go_wp2;go_ret;exact gAC
    have c7:0<(z.ents.length:Int):=by omega
    have hA:A=false:=by have:=a0.out;simpa[a4]using this.symm
    subst hA;subst hR;go_wp2;go_ret;exact gAC
   rw[zS (by omega)]at hre;have hA:A=true:=by rw[<-hre];rfl
   subst hA;subst hR;clear hre;go_wp2;go_ret;exact gAC
  rw[zA h2]at hR;subst hR;have h2:x.dir=false:=by simpa using h2
  rw[h2]at d1;unfold vR;go_in;go_wp2;go_ret;exact gAC
 rw[zA h1]at hR;subst hR;unfold vR;go_in;go_wp2;go_ret;exact gAC
end Go.Proofs.YtmkapobnfigedaaGreatDoor
