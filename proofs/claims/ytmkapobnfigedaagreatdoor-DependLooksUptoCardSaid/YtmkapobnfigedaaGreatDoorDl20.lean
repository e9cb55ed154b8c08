/- Part of the proof of a law of chapter 15. Conditions: none. -/
import Derived.Test.YtmkapobnfigedaaGreatDoorDl18
import Derived.Test.YtmkapobnfigedaaGreatDoorDl17
set_option linter.unusedVariables false
set_option linter.unusedSimpArgs false
set_option maxRecDepth 100000
set_option maxHeartbeats 8000000
namespace Go.Proofs.YtmkapobnfigedaaGreatDoor
open Go.RowKit
def cY (s:ByteArray) (p:Nat):Int:=if h:p<s.size then((s[p]'h).toNat:Int)else 0
theorem nV {s:ByteArray} {p:Nat} (h:p<s.size):cY s p=((s[p]'h).toNat:Int):=by simp[cY,h]
theorem kF (s:ByteArray) (p:Nat):0<=cY s p/\cY s p<256:=by
 unfold cY;split
 .rename_i h
  have:(s[p]'h).toNat<256:=UInt8.toNat_lt _;omega
 omega
def eV (s:ByteArray) (p:Nat):Int:=if p<s.size then(if cY s p<128 then -1 else if 191<cY s p then -1 else cY s p-128)else -1
theorem aAW (s:ByteArray) (p:Nat) (w:World):
 vR w 166 #[.string s,.int .i64 p] (.int .i64 (eV s p)):=by
 generalize hR:eV s p=R;have HR:=aG hR;clear hR;by_cases hp:p<s.size
 .have a1:¬(s.size:Int)<=p:=by omega
  have hw:=nV hp;have hb:0<=cY s p/\cY s p<256:=kF s p;have a0:(if cY s p<128 then -1 else if 191<cY s p then -1 else cY s p-128)=R:=by rw[<-HR.out];simp[eV,hp]
  clear HR;rw[hw]at a0 hb;clear hw;by_cases h1:((s[p].toNat:Nat):Int)<128
  .rw[zB h1]at a0;subst a0
   go_enter Tryz.func166,Tryz.ntmps166;go_wp2_with fail;go_ret;exact⟨rfl,bel _ _⟩
  rw[zA h1]at a0;by_cases h2:(191:Int)<((s[p].toNat:Nat):Int)
  .rw[zB h2]at a0;subst a0
   go_enter Tryz.func166,Tryz.ntmps166;go_wp2_with fail;go_ret;exact⟨rfl,bel _ _⟩
  rw[zA h2]at a0;subst a0;go_enter Tryz.func166,Tryz.ntmps166;go_wp2_with fail;go_ret;refine⟨rfl,bel _ _⟩
 have a1:(s.size:Int)<=p:=by omega
 have a0:-1=R:=by rw[<-HR.out];simp[eV,hp]
 subst a0;go_enter Tryz.func166,Tryz.ntmps166;go_wp2_with fail;go_ret;exact⟨rfl,bel _ _⟩
def bE (c a b d:Int):Int × Int:=
 if c<128 then(c,1)
 else if 194<=c/\c<=223/\0<=a then((c-192)*64+a,2)
 else if 224<=c/\c<=239/\0<=a/\0<=b then
  (if 2048<=(c-224)*4096+a*64+b/\((c-224)*4096+a*64+b<55296\/57343<(c-224)*4096+a*64+b)then((c-224)*4096+a*64+b,3)else(65533,0))
 else if 240<=c/\c<=244/\0<=a/\0<=b/\0<=d then
  (if 65536<=(c-240)*262144+a*4096+b*64+d/\(c-240)*262144+a*4096+b*64+d<=1114111 then((c-240)*262144+a*4096+b*64+d,4)else(65533,0))
 else(65533,0)
def bV (s:ByteArray) (p:Nat):Int × Int:=bE (cY s p) (eV s (p+1)) (eV s (p+2)) (eV s (p+3))
theorem eQ (s:ByteArray) (p:Nat):-1<=eV s p/\eV s p<=63:=by
 have:=kF s p;unfold eV;split
 .split
  .omega
  split<;>omega
 omega
theorem aOR (s:ByteArray) (p:Nat) (hp:p<s.size) (hs:s.size<=1000000000000) (w:World):
 vR w 120 #[.string s,.int .i64 p] (.tuple #[.int .i64 (bV s p).1,.int .i64 (bV s p).2]):=by
 obtain⟨R,hR⟩:∃R,bV s p=R:=⟨_,rfl⟩;rw[hR];unfold bV at hR;rw[nV hp]at hR;have a4:∀ww,vR ww 166 #[.string s,.int .i64 ((p:Int)+1)] (.int .i64 (eV s (p+1))):=λww=>by simpa using aAW s (p+1) ww
 have a5:∀ww,vR ww 166 #[.string s,.int .i64 ((p:Int)+2)] (.int .i64 (eV s (p+2))):=λww=>by simpa using aAW s (p+2) ww
 have a6:∀ww,vR ww 166 #[.string s,.int .i64 ((p:Int)+3)] (.int .i64 (eV s (p+3))):=λww=>by simpa using aAW s (p+3) ww
 have ba:=eQ s (p+1);have bb:=eQ s (p+2);have bd:=eQ s (p+3);generalize eV s (p+1)=a at hR a4 ba;generalize eV s (p+2)=b at hR a5 bb;generalize eV s (p+3)=d at hR a6 bd;have w1:IntKind.i64.wrap ((p:Int)+1)=(p:Int)+1:=I64.wrap ⟨by omega,by omega⟩;have w2:IntKind.i64.wrap ((p:Int)+2)=(p:Int)+2:=I64.wrap ⟨by omega,by omega⟩;have w3:IntKind.i64.wrap ((p:Int)+3)=(p:Int)+3:=I64.wrap ⟨by omega,by omega⟩;have hc:(s[p].toNat:Int)<256:=by have:=UInt8.toNat_lt s[p];omega
 obtain⟨c,ec⟩:∃c:Int,(s[p].toNat:Int)=c:=⟨_,rfl⟩;have a8:0<=c:=by omega
 rw[ec]at hR hc;have HR:=aG hR;clear hR;go_enter Tryz.func120,Tryz.ntmps120;go_upto_region 3 with(first|(go_at_call 166;with_reducible refine aE (a4 _) λp=>?_)|(go_at_call 166;with_reducible refine aE (a5 _) λp=>?_)|(go_at_call 166;with_reducible refine aE (a6 _) λp=>?_))
 have a2:c<128\/(128<=c/\c<194)\/(194<=c/\c<224)\/(224<=c/\c<240)\/(240<=c/\c<245)\/245<=c:=by omega
 clear ec a4 a5 a6 w1 w2 w3;rcases a2 with a2|a2|a2|a2|a2|a2
 .have f0:c<128:=by omega
  have f1:¬194<=c:=by omega
  have f2:c<=223:=by omega
  have f3:¬224<=c:=by omega
  have f4:c<=239:=by omega
  have f5:¬240<=c:=by omega
  have f6:c<=244:=by omega
  have a0:(c,(1:Int))=R:=by rw[<-HR.out];unfold bE;simp(config:={ zeta:=true}) only[*];simp[*]
  subst a0;clear HR;go_wp2_with fail
  go_ret2;exact⟨rfl,bel _ _⟩
 .have f0:¬c<128:=by omega
  have f1:¬194<=c:=by omega
  have f2:c<=223:=by omega
  have f3:¬224<=c:=by omega
  have f4:c<=239:=by omega
  have f5:¬240<=c:=by omega
  have f6:c<=244:=by omega
  have a0:(65533,(0:Int))=R:=by rw[<-HR.out];unfold bE;simp(config:={ zeta:=true}) only[*];simp[*]
  subst a0;clear HR;go_wp2_with fail
  go_ret2;exact⟨rfl,bel _ _⟩
 .by_cases ha:0<=a
  .have f0:¬c<128:=by omega
   have f1:194<=c:=by omega
   have f2:c<=223:=by omega
   have f3:¬224<=c:=by omega
   have f4:c<=239:=by omega
   have f5:¬240<=c:=by omega
   have f6:c<=244:=by omega
   have f7:0<=a:=by omega
   have g0:IntKind.i64.wrap (c-192)=c-192:=I64.wrap ⟨by omega,by omega⟩;have g1:IntKind.i64.wrap ((c-192)*64)=(c-192)*64:=I64.wrap ⟨by omega,by omega⟩;have g2:IntKind.i64.wrap ((c-192)*64+a)=(c-192)*64+a:=I64.wrap ⟨by omega,by omega⟩;have a0:((c-192)*64+a,(2:Int))=R:=by rw[<-HR.out];unfold bE;simp(config:={ zeta:=true}) only[*];simp[*]
   subst a0;clear HR;go_wp2_with fail
   go_ret2;exact⟨rfl,bel _ _⟩
  have f0:¬c<128:=by omega
  have f1:194<=c:=by omega
  have f2:c<=223:=by omega
  have f3:¬224<=c:=by omega
  have f4:c<=239:=by omega
  have f5:¬240<=c:=by omega
  have f6:c<=244:=by omega
  have f7:¬0<=a:=by omega
  have a0:(65533,(0:Int))=R:=by rw[<-HR.out];unfold bE;simp(config:={ zeta:=true}) only[*];simp[*]
  subst a0;clear HR;go_wp2_with fail
  go_ret2;exact⟨rfl,bel _ _⟩
 .by_cases ha:0<=a
  .by_cases hb:0<=b
   .have a1:(¬2048<=(c-224)*4096+a*64+b)\/(2048<=(c-224)*4096+a*64+b/\(c-224)*4096+a*64+b<55296)\/(55296<=(c-224)*4096+a*64+b/\(c-224)*4096+a*64+b<=57343)\/57343<(c-224)*4096+a*64+b:=by omega
    rcases a1 with a1|a1|a1|a1
    .have f0:¬c<128:=by omega
     have f1:194<=c:=by omega
     have f2:¬c<=223:=by omega
     have f3:224<=c:=by omega
     have f4:c<=239:=by omega
     have f5:¬240<=c:=by omega
     have f6:c<=244:=by omega
     have f7:0<=a:=by omega
     have f8:0<=b:=by omega
     have f9:¬2048<=(c-224)*4096+a*64+b:=by omega
     have g0:IntKind.i64.wrap (c-224)=c-224:=I64.wrap ⟨by omega,by omega⟩;have g1:IntKind.i64.wrap ((c-224)*4096)=(c-224)*4096:=I64.wrap ⟨by omega,by omega⟩;have g2:IntKind.i64.wrap (a*64)=a*64:=I64.wrap ⟨by omega,by omega⟩;have g3:IntKind.i64.wrap ((c-224)*4096+a*64)=(c-224)*4096+a*64:=I64.wrap ⟨by omega,by omega⟩;have g4:IntKind.i64.wrap ((c-224)*4096+a*64+b)=(c-224)*4096+a*64+b:=I64.wrap ⟨by omega,by omega⟩;have a0:(65533,(0:Int))=R:=by rw[<-HR.out];unfold bE;simp(config:={ zeta:=true}) only[*];simp[*]
     subst a0;clear HR;go_wp2_with fail
     go_ret2;exact⟨rfl,bel _ _⟩
    .have f0:¬c<128:=by omega
     have f1:194<=c:=by omega
     have f2:¬c<=223:=by omega
     have f3:224<=c:=by omega
     have f4:c<=239:=by omega
     have f5:¬240<=c:=by omega
     have f6:c<=244:=by omega
     have f7:0<=a:=by omega
     have f8:0<=b:=by omega
     have f9:2048<=(c-224)*4096+a*64+b:=by omega
     have a3:(c-224)*4096+a*64+b<55296:=by omega
     have g0:IntKind.i64.wrap (c-224)=c-224:=I64.wrap ⟨by omega,by omega⟩;have g1:IntKind.i64.wrap ((c-224)*4096)=(c-224)*4096:=I64.wrap ⟨by omega,by omega⟩;have g2:IntKind.i64.wrap (a*64)=a*64:=I64.wrap ⟨by omega,by omega⟩;have g3:IntKind.i64.wrap ((c-224)*4096+a*64)=(c-224)*4096+a*64:=I64.wrap ⟨by omega,by omega⟩;have g4:IntKind.i64.wrap ((c-224)*4096+a*64+b)=(c-224)*4096+a*64+b:=I64.wrap ⟨by omega,by omega⟩;have a0:((c-224)*4096+a*64+b,(3:Int))=R:=by rw[<-HR.out];unfold bE;simp(config:={ zeta:=true}) only[*];simp[*]
     subst a0;clear HR;go_wp2_with fail
     go_ret2;exact⟨rfl,bel _ _⟩
    .have f0:¬c<128:=by omega
     have f1:194<=c:=by omega
     have f2:¬c<=223:=by omega
     have f3:224<=c:=by omega
     have f4:c<=239:=by omega
     have f5:¬240<=c:=by omega
     have f6:c<=244:=by omega
     have f7:0<=a:=by omega
     have f8:0<=b:=by omega
     have f9:2048<=(c-224)*4096+a*64+b:=by omega
     have a3:¬(c-224)*4096+a*64+b<55296:=by omega
     have a7:¬57343<(c-224)*4096+a*64+b:=by omega
     have g0:IntKind.i64.wrap (c-224)=c-224:=I64.wrap ⟨by omega,by omega⟩;have g1:IntKind.i64.wrap ((c-224)*4096)=(c-224)*4096:=I64.wrap ⟨by omega,by omega⟩;have g2:IntKind.i64.wrap (a*64)=a*64:=I64.wrap ⟨by omega,by omega⟩;have g3:IntKind.i64.wrap ((c-224)*4096+a*64)=(c-224)*4096+a*64:=I64.wrap ⟨by omega,by omega⟩;have g4:IntKind.i64.wrap ((c-224)*4096+a*64+b)=(c-224)*4096+a*64+b:=I64.wrap ⟨by omega,by omega⟩;have a0:(65533,(0:Int))=R:=by rw[<-HR.out];unfold bE;simp(config:={ zeta:=true}) only[*];simp[*]
     subst a0;clear HR;go_wp2_with fail
     go_ret2;exact⟨rfl,bel _ _⟩
    have f0:¬c<128:=by omega
    have f1:194<=c:=by omega
    have f2:¬c<=223:=by omega
    have f3:224<=c:=by omega
    have f4:c<=239:=by omega
    have f5:¬240<=c:=by omega
    have f6:c<=244:=by omega
    have f7:0<=a:=by omega
    have f8:0<=b:=by omega
    have f9:2048<=(c-224)*4096+a*64+b:=by omega
    have a3:¬(c-224)*4096+a*64+b<55296:=by omega
    have a7:57343<(c-224)*4096+a*64+b:=by omega
    have g0:IntKind.i64.wrap (c-224)=c-224:=I64.wrap ⟨by omega,by omega⟩;have g1:IntKind.i64.wrap ((c-224)*4096)=(c-224)*4096:=I64.wrap ⟨by omega,by omega⟩;have g2:IntKind.i64.wrap (a*64)=a*64:=I64.wrap ⟨by omega,by omega⟩;have g3:IntKind.i64.wrap ((c-224)*4096+a*64)=(c-224)*4096+a*64:=I64.wrap ⟨by omega,by omega⟩;have g4:IntKind.i64.wrap ((c-224)*4096+a*64+b)=(c-224)*4096+a*64+b:=I64.wrap ⟨by omega,by omega⟩;have a0:((c-224)*4096+a*64+b,(3:Int))=R:=by rw[<-HR.out];unfold bE;simp(config:={ zeta:=true}) only[*];simp[*]
    subst a0;clear HR;go_wp2_with fail
    go_ret2;exact⟨rfl,bel _ _⟩
   have f0:¬c<128:=by omega
   have f1:194<=c:=by omega
   have f2:¬c<=223:=by omega
   have f3:224<=c:=by omega
   have f4:c<=239:=by omega
   have f5:¬240<=c:=by omega
   have f6:c<=244:=by omega
   have f7:0<=a:=by omega
   have f8:¬0<=b:=by omega
   have a0:(65533,(0:Int))=R:=by rw[<-HR.out];unfold bE;simp(config:={ zeta:=true}) only[*];simp[*]
   subst a0;clear HR;go_wp2_with fail
   go_ret2;exact⟨rfl,bel _ _⟩
  have f0:¬c<128:=by omega
  have f1:194<=c:=by omega
  have f2:¬c<=223:=by omega
  have f3:224<=c:=by omega
  have f4:c<=239:=by omega
  have f5:¬240<=c:=by omega
  have f6:c<=244:=by omega
  have f7:¬0<=a:=by omega
  have a0:(65533,(0:Int))=R:=by rw[<-HR.out];unfold bE;simp(config:={ zeta:=true}) only[*];simp[*]
  subst a0;clear HR;go_wp2_with fail
  go_ret2;exact⟨rfl,bel _ _⟩
 .by_cases ha:0<=a
  .by_cases hb:0<=b
   .by_cases hd:0<=d
    .have a1:(¬65536<=(c-240)*262144+a*4096+b*64+d)\/(65536<=(c-240)*262144+a*4096+b*64+d/\(c-240)*262144+a*4096+b*64+d<=1114111)\/(65536<=(c-240)*262144+a*4096+b*64+d/\¬(c-240)*262144+a*4096+b*64+d<=1114111):=by omega
     rcases a1 with a1|a1|a1
     .have f0:¬c<128:=by omega
      have f1:194<=c:=by omega
      have f2:¬c<=223:=by omega
      have f3:224<=c:=by omega
      have f4:¬c<=239:=by omega
      have f5:240<=c:=by omega
      have f6:c<=244:=by omega
      have f7:0<=a:=by omega
      have f8:0<=b:=by omega
      have f9:0<=d:=by omega
      have a3:¬65536<=(c-240)*262144+a*4096+b*64+d:=by omega
      have g0:IntKind.i64.wrap (c-240)=c-240:=I64.wrap ⟨by omega,by omega⟩;have g1:IntKind.i64.wrap ((c-240)*262144)=(c-240)*262144:=I64.wrap ⟨by omega,by omega⟩;have g2:IntKind.i64.wrap (a*4096)=a*4096:=I64.wrap ⟨by omega,by omega⟩;have g3:IntKind.i64.wrap (b*64)=b*64:=I64.wrap ⟨by omega,by omega⟩;have g4:IntKind.i64.wrap ((c-240)*262144+a*4096)=(c-240)*262144+a*4096:=I64.wrap ⟨by omega,by omega⟩;have g5:IntKind.i64.wrap ((c-240)*262144+a*4096+b*64)=(c-240)*262144+a*4096+b*64:=I64.wrap ⟨by omega,by omega⟩;have g6:IntKind.i64.wrap ((c-240)*262144+a*4096+b*64+d)=(c-240)*262144+a*4096+b*64+d:=I64.wrap ⟨by omega,by omega⟩;have a0:(65533,(0:Int))=R:=by rw[<-HR.out];unfold bE;simp(config:={ zeta:=true}) only[*];simp[*]
      subst a0;clear HR;go_wp2_with fail
      go_ret2;exact⟨rfl,bel _ _⟩
     .have f0:¬c<128:=by omega
      have f1:194<=c:=by omega
      have f2:¬c<=223:=by omega
      have f3:224<=c:=by omega
      have f4:¬c<=239:=by omega
      have f5:240<=c:=by omega
      have f6:c<=244:=by omega
      have f7:0<=a:=by omega
      have f8:0<=b:=by omega
      have f9:0<=d:=by omega
      have a3:65536<=(c-240)*262144+a*4096+b*64+d:=by omega
      have a7:(c-240)*262144+a*4096+b*64+d<=1114111:=by omega
      have g0:IntKind.i64.wrap (c-240)=c-240:=I64.wrap ⟨by omega,by omega⟩;have g1:IntKind.i64.wrap ((c-240)*262144)=(c-240)*262144:=I64.wrap ⟨by omega,by omega⟩;have g2:IntKind.i64.wrap (a*4096)=a*4096:=I64.wrap ⟨by omega,by omega⟩;have g3:IntKind.i64.wrap (b*64)=b*64:=I64.wrap ⟨by omega,by omega⟩;have g4:IntKind.i64.wrap ((c-240)*262144+a*4096)=(c-240)*262144+a*4096:=I64.wrap ⟨by omega,by omega⟩;have g5:IntKind.i64.wrap ((c-240)*262144+a*4096+b*64)=(c-240)*262144+a*4096+b*64:=I64.wrap ⟨by omega,by omega⟩;have g6:IntKind.i64.wrap ((c-240)*262144+a*4096+b*64+d)=(c-240)*262144+a*4096+b*64+d:=I64.wrap ⟨by omega,by omega⟩;have a0:((c-240)*262144+a*4096+b*64+d,(4:Int))=R:=by rw[<-HR.out];unfold bE;simp(config:={ zeta:=true}) only[*];simp[*]
      subst a0;clear HR;go_wp2_with fail
      go_ret2;exact⟨rfl,bel _ _⟩
     have f0:¬c<128:=by omega
     have f1:194<=c:=by omega
     have f2:¬c<=223:=by omega
     have f3:224<=c:=by omega
     have f4:¬c<=239:=by omega
     have f5:240<=c:=by omega
     have f6:c<=244:=by omega
     have f7:0<=a:=by omega
     have f8:0<=b:=by omega
     have f9:0<=d:=by omega
     have a3:65536<=(c-240)*262144+a*4096+b*64+d:=by omega
     have a7:¬(c-240)*262144+a*4096+b*64+d<=1114111:=by omega
     have g0:IntKind.i64.wrap (c-240)=c-240:=I64.wrap ⟨by omega,by omega⟩;have g1:IntKind.i64.wrap ((c-240)*262144)=(c-240)*262144:=I64.wrap ⟨by omega,by omega⟩;have g2:IntKind.i64.wrap (a*4096)=a*4096:=I64.wrap ⟨by omega,by omega⟩;have g3:IntKind.i64.wrap (b*64)=b*64:=I64.wrap ⟨by omega,by omega⟩;have g4:IntKind.i64.wrap ((c-240)*262144+a*4096)=(c-240)*262144+a*4096:=I64.wrap ⟨by omega,by omega⟩;have g5:IntKind.i64.wrap ((c-240)*262144+a*4096+b*64)=(c-240)*262144+a*4096+b*64:=I64.wrap ⟨by omega,by omega⟩;have g6:IntKind.i64.wrap ((c-240)*262144+a*4096+b*64+d)=(c-240)*262144+a*4096+b*64+d:=I64.wrap ⟨by omega,by omega⟩;have a0:(65533,(0:Int))=R:=by rw[<-HR.out];unfold bE;simp(config:={ zeta:=true}) only[*];simp[*]
     subst a0;clear HR;go_wp2_with fail
     go_ret2;exact⟨rfl,bel _ _⟩
    have f0:¬c<128:=by omega
    have f1:194<=c:=by omega
    have f2:¬c<=223:=by omega
    have f3:224<=c:=by omega
    have f4:¬c<=239:=by omega
    have f5:240<=c:=by omega
    have f6:c<=244:=by omega
    have f7:0<=a:=by omega
    have f8:0<=b:=by omega
    have f9:¬0<=d:=by omega
    have a0:(65533,(0:Int))=R:=by rw[<-HR.out];unfold bE;simp(config:={ zeta:=true}) only[*];simp[*]
    subst a0;clear HR;go_wp2_with fail
    go_ret2;exact⟨rfl,bel _ _⟩
   have f0:¬c<128:=by omega
   have f1:194<=c:=by omega
   have f2:¬c<=223:=by omega
   have f3:224<=c:=by omega
   have f4:¬c<=239:=by omega
   have f5:240<=c:=by omega
   have f6:c<=244:=by omega
   have f7:0<=a:=by omega
   have f8:¬0<=b:=by omega
   have a0:(65533,(0:Int))=R:=by rw[<-HR.out];unfold bE;simp(config:={ zeta:=true}) only[*];simp[*]
   subst a0;clear HR;go_wp2_with fail
   go_ret2;exact⟨rfl,bel _ _⟩
  have f0:¬c<128:=by omega
  have f1:194<=c:=by omega
  have f2:¬c<=223:=by omega
  have f3:224<=c:=by omega
  have f4:¬c<=239:=by omega
  have f5:240<=c:=by omega
  have f6:c<=244:=by omega
  have f7:¬0<=a:=by omega
  have a0:(65533,(0:Int))=R:=by rw[<-HR.out];unfold bE;simp(config:={ zeta:=true}) only[*];simp[*]
  subst a0;clear HR;go_wp2_with fail
  go_ret2;exact⟨rfl,bel _ _⟩
 have f0:¬c<128:=by omega
 have f1:194<=c:=by omega
 have f2:¬c<=223:=by omega
 have f3:224<=c:=by omega
 have f4:¬c<=239:=by omega
 have f5:240<=c:=by omega
 have f6:¬c<=244:=by omega
 have a0:(65533,(0:Int))=R:=by rw[<-HR.out];unfold bE;simp(config:={ zeta:=true}) only[*];simp[*]
 subst a0;clear HR;go_wp2_with fail
 go_ret2;exact⟨rfl,bel _ _⟩
theorem kG (s:ByteArray) (p:Nat):0<=(bV s p).1/\(bV s p).1<=1114111/\0<=(bV s p).2/\(bV s p).2<=4:=by
 have h0:=kF s p;have h1:=eQ s (p+1);have h2:=eQ s (p+2);have h3:=eQ s (p+3);unfold bV;generalize cY s p=c at *;generalize eV s (p+1)=a at *;generalize eV s (p+2)=b at *;generalize eV s (p+3)=d at *;unfold bE
 repeat' split
 all_goals(simp only;omega)
def jH (s:ByteArray):Nat->Nat->Int->Int
 |0,_,h=>h
 |b+1,p,h=>if p<s.size then jH s b (p+(max (bV s p).2 1).toNat) ((31*h+(bV s p).1)%4294967296)else h
def rY (s:ByteArray):Int:=jH s s.size 0 7
theorem aFU (s:ByteArray) (b p:Nat) (h:Int) (hp:¬p<s.size):jH s b p h=h:=by
 cases b with
 |zero=>rfl
 |succ b=>simp[jH,hp]
theorem xJ (s:ByteArray):∀b p h,0<=h/\h<4294967296->0<=jH s b p h/\jH s b p h<4294967296
 |0,_,h,hh=>hh
 | b+1,p,h,hh=>by
   unfold jH;split
   .have:=kG s p;exact xJ s b _ _ (by omega)
   exact hh
theorem aTA (s:ByteArray) (hs:s.size<=1000000000) (w:World):
 vR w 119 #[.string s] (.int .i64 (rY s)):=by
 obtain⟨R,hR⟩:∃R,rY s=R:=⟨_,rfl⟩;rw[hR];unfold rY at hR;have HR:=aG hR;clear hR;go_enter Tryz.func119,Tryz.ntmps119;go_wp2_with fail
 go_loopw[3,4] (λvh vi wr=>∃(p b:Nat) (acc:Int),vi=.int .i64 p/\vh=.int .i64 acc/\0<=acc/\acc<4294967296/\jH s b p acc=R/\s.size<=p+b/\p<=s.size+4/\Below w.heap.size w wr) (λ_ vi _=>(s.size+4-intOf vi).toNat)
 case atStart=>exact⟨0,s.size,7,rfl,rfl,by omega,by omega,HR.out,by omega,by omega,bel _ _⟩
 obtain⟨p,b,acc,rfl,rfl,ha0,ha1,hre,hbp,hp4,hb⟩:=hrel;have iB:Bel w wr:=⟨hb⟩;by_cases hp:p<s.size
 .have a2:(p:Int)<s.size:=by omega
  obtain⟨b',rfl⟩:∃b',b=b'+1:=⟨b-1,by omega⟩;have a0:=λww=>aOR s p hp (by omega) ww;have a1:=kG s p;rw[jH,zB hp]at hre;generalize hrk:bV s p=rk at hre a0 a1;clear hrk;obtain⟨r,k⟩:=rk;simp only at a1 hre a0;obtain⟨m,hm⟩:∃m:Nat,max k 1=m:=⟨(max k 1).toNat,by omega⟩;have a4:1<=m/\m<=4:=by omega
  rw[hm,zJ]at hre;have w1:IntKind.i64.wrap (31*acc)=31*acc:=I64.wrap ⟨by omega,by omega⟩;have w2:IntKind.i64.wrap (31*acc+r)=31*acc+r:=I64.wrap ⟨by omega,by omega⟩;have w3:IntKind.i64.wrap ((p:Int)+m)=p+m:=I64.wrap ⟨by omega,by omega⟩;have w4:IntKind.i64.wrap ((31*acc+r)%4294967296)=(31*acc+r)%4294967296:=I64.wrap ⟨by omega,by omega⟩;have w5:(31*acc+r).tmod 4294967296=(31*acc+r)%4294967296:=Int.tmod_eq_emod_of_nonneg (by omega);have a3:=aG hre;clear hre;go_wp2_with(go_at_call 120;refine aE (a0 _) λpj=>?_);go_roundw
  case rel=>exact⟨p+m,b',_,by rfl,rfl,by omega,by omega,a3.out,by omega,by omega,bel _ _⟩
  simp[intOf];omega
 rw[aFU s b p acc hp]at hre;subst hre;have a2:¬(p:Int)<s.size:=by omega
 go_wp2_with fail;go_ret;exact⟨rfl,bel _ _⟩
def eR (s:ByteArray):Nat->Nat->Bool
 |0,_=>true
 |b+1,p=>if p<s.size then(if (bV s p).2=0\/(bV s p).1=47\/(bV s p).1<32\/(bV s p).1=127 then false else eR s b (p+(bV s p).2.toNat))else true
def bT (s:ByteArray):Int:=if 12<s.size then 801 else if(s.toList.isEmpty||s.toList==[46]||s.toList==[46,46])=true then 800 else if eR s s.size 0=true then 0 else 800
theorem aCV (s:ByteArray) (b p:Nat) (hp:¬p<s.size):eR s b p=true:=by
 cases b with
 |zero=>rfl
 |succ b=>simp[eR,hp]
theorem aHQ (s:ByteArray) (w:World):
 vR w 90 #[.string s] (.int .i64 (bT s)):=by
 by_cases hlen:12<s.size
 .have a0:(12:Int)<s.size:=by omega
  have hM:bT s=801:=by simp[bT,hlen]
  rw[hM];go_enter Tryz.func90,Tryz.ntmps90;go_wp2_with fail;go_ret;exact⟨rfl,bel _ _⟩
 have a0:¬(12:Int)<s.size:=by omega
 rcases h1:s.toList.isEmpty with _|_;rcases h2:s.toList==[46]with _|_;rcases h3:s.toList==[46,46]with _|_
 .have hM:bT s=if eR s s.size 0=true then 0 else 800:=by simp only[bT,zA hlen,h1,h2,h3];rfl
  rw[hM];obtain⟨V,hV⟩:∃V:Int,(if eR s s.size 0=true then 0 else 800)=V:=⟨_,rfl⟩;rw[hV];obtain⟨T,hT⟩:∃T,eR s s.size 0=T:=⟨_,rfl⟩;rw[hT]at hV;have HT:=bB hT hV;clear hM hT hV;go_enter Tryz.func90,Tryz.ntmps90;go_wp2_with fail
  go_loopw[3] (λvi wr=>∃(p b:Nat),vi=.int .i64 p/\eR s b p=T/\s.size<=p+b/\p<=s.size+4/\Below w.heap.size w wr) (λvi _=>(s.size+4-intOf vi).toNat)
  case atStart=>exact⟨0,s.size,rfl,HT.out.1,by omega,by omega,bel _ _⟩
  obtain⟨p,b,rfl,hre,hbp,hp4,hb⟩:=hrel;have iB:Bel w wr:=⟨hb⟩;by_cases hp:p<s.size
  .have a8:(p:Int)<s.size:=by omega
   obtain⟨b',rfl⟩:∃b',b=b'+1:=⟨b-1,by omega⟩;have a5:=λww=>aOR s p hp (by omega) ww;have a7:=kG s p;rw[eR,zB hp]at hre;generalize hrk:bV s p=rk at hre a5 a7;clear hrk;obtain⟨r,k⟩:=rk;simp only at a7 hre a5;by_cases hbad:k=0\/r=47\/r<32\/r=127
   .rw[zB hbad]at hre;subst hre;obtain rfl:V=800:=by have:=HT.out.2;simpa using this.symm
    have a6:k=0\/((k==0)=false/\(r==47)=true)\/((k==0)=false/\(r==47)=false/\r<32)\/((k==0)=false/\(r==47)=false/\¬r<32/\(r==127)=true):=by
     by_cases a1:k=0
     .exact .inl a1
     by_cases a2:r=47
     .exact .inr (.inl ⟨by simpa using a1,by simpa using a2⟩)
     by_cases a3:r<32
     .exact .inr (.inr (.inl ⟨by simpa using a1,by simpa using a2,a3⟩))
     exact .inr (.inr (.inr ⟨by simpa using a1,by simpa using a2,a3,by simp;omega⟩))
    clear hbad HT;rcases a6 with hc|⟨c1,c2⟩|⟨c1,c2,c3⟩|⟨c1,c2,c3,c4⟩
    .have c1:(k==0)=true:=by simpa using hc
     clear hc;go_wp2_with(go_at_call 120;refine aE (a5 _) λpj=>?_);go_ret;exact⟨rfl,bel _ _⟩
    all_goals
     go_wp2_with(go_at_call 120;refine aE (a5 _) λpj=>?_);go_ret;exact⟨rfl,bel _ _⟩
   rw[zA hbad]at hre;have a1:(k==0)=false:=by simp;omega
   have a2:(r==47)=false:=by simp;omega
   have a3:¬r<32:=by omega
   have a4:(r==127)=false:=by simp;omega
   have hk:¬k=0:=by omega
   obtain⟨m,rfl⟩:∃m:Nat,k=m:=⟨k.toNat,by omega⟩;have b0:1<=m/\m<=4:=by omega
   rw[zJ]at hre;have w3:IntKind.i64.wrap ((p:Int)+m)=p+m:=I64.wrap ⟨by omega,by omega⟩;have a9:=aG hre;clear hre hbad hk;go_wp2_with(go_at_call 120;refine aE (a5 _) λpj=>?_);go_roundw
   case rel=>exact⟨p+m,b',by rfl,a9.out,by omega,by omega,bel _ _⟩
   simp[intOf];omega
  rw[aCV s b p hp]at hre;subst hre;obtain rfl:V=0:=by have:=HT.out.2;simpa using this.symm
  have a8:¬(p:Int)<s.size:=by omega
  go_wp2_with fail;go_ret;exact⟨rfl,bel _ _⟩
 all_goals
  have hM:bT s=800:=by simp only[bT,zA hlen];simp[*]
  rw[hM];go_enter Tryz.func90,Tryz.ntmps90;go_wp2_with fail;go_ret;exact⟨rfl,bel _ _⟩
def jR (x y:ByteArray):Nat->Nat->Bool
 |0,_=>decide (x.size<y.size)
 |n+1,p=>if p<x.size/\p<y.size then(if cY x p=cY y p then jR x y n (p+1)else decide (cY x p<cY y p))else decide (x.size<y.size)
def dL (x y:ByteArray):Bool:=jR x y x.size 0
theorem aCW (x y:ByteArray) (n p:Nat) (hp:¬(p<x.size/\p<y.size)):jR x y n p=decide (x.size<y.size):=by
 cases n with
 |zero=>rfl
 |succ n=>rw[jR,zA hp]
theorem aHR (x y:ByteArray) (hs:x.size<=1000000000000) (w:World):
 vR w 81 #[.string x,.string y] (.bool (dL x y)):=by
 obtain⟨R,hR⟩:∃R,dL x y=R:=⟨_,rfl⟩;rw[hR];unfold dL at hR;have HR:=aG hR;clear hR;go_enter Tryz.func81,Tryz.ntmps81;go_wp2_with fail
 go_loopw[5] (λvi wr=>∃(q b:Nat),vi=.int .i64 q/\jR x y b q=R/\x.size<=q+b/\q<=x.size/\Below w.heap.size w wr) (λvi _=>(x.size-intOf vi).toNat)
 case atStart=>exact⟨0,x.size,rfl,HR.out,by omega,by omega,bel _ _⟩
 obtain⟨q,b,rfl,hre,hbp,hp4,hb⟩:=hrel;have iB:Bel w wr:=⟨hb⟩;have a1:(q<x.size/\q<y.size)\/¬(q<x.size)\/(q<x.size/\¬q<y.size):=by omega
 have a0:∀ww,Bel w ww->¬(q<x.size/\q<y.size)->Ending.returned (.bool (decide ((x.size:Int)<y.size)))=Ending.returned (.bool R)/\Below w.heap.size w ww:=λww hww hn=>by rw[aCW x y b q hn]at hre;rw[<-hre];exact⟨by congr 2;by_cases h:x.size<y.size<;>simp[h]<;>omega,hww.below⟩
 rcases a1 with⟨h1,h2⟩|h1|⟨h1,h2⟩
 .obtain⟨b',rfl⟩:∃b',b=b'+1:=⟨b-1,by omega⟩
  clear a0;rw[jR,zB ⟨h1,h2⟩,nV h1,nV h2]at hre;have a2:(q:Int)<x.size:=by omega
  have a3:(q:Int)<y.size:=by omega
  have w3:IntKind.i64.wrap ((q:Int)+1)=q+1:=I64.wrap ⟨by omega,by omega⟩;by_cases he:(x[q].toNat:Int)=y[q].toNat
  .rw[zB he]at hre;have a4:((x[q].toNat:Int) !=y[q].toNat)=false:=by simpa using he
   have a5:=aG hre;clear hre he;go_wp2_with fail;refine qR ?_
   repeat(go_big_quiet_step (fail))
   refine QN λp=>?_;go_wp2_with fail;go_roundw
   case rel=>exact⟨q+1,b',by rfl,a5.out,by omega,by omega,bel _ _⟩
   simp[intOf];omega
  rw[zA he]at hre;have a4:((x[q].toNat:Int) !=y[q].toNat)=true:=by simpa using he
  subst hre;go_wp2_with fail;refine qR ?_
  repeat(go_big_quiet_step (fail))
  refine QN λp=>?_;go_wp2_with fail;refine qR ?_
  repeat(go_big_quiet_step (fail))
  refine QN λp=>?_;go_wp2_with fail;exact xB (v:=.bool (decide ((x[q].toNat:Int)<y[q].toNat))) (by simp[results,Tryz.results81,go_sem]) rfl ⟨rfl,bel _ _⟩
 .have a2:¬(q:Int)<x.size:=by omega
  have HE:=aG a0;clear a0 hre;go_wp2_with fail;exact xB (v:=.bool (decide ((x.size:Int)<y.size))) (by simp[results,Tryz.results81,go_sem]) rfl (HE.out _ ⟨bel _ _⟩ (by omega))
 have a2:(q:Int)<x.size:=by omega
 have a3:¬(q:Int)<y.size:=by omega
 have HE:=aG a0;clear a0 hre;go_wp2_with fail;exact xB (v:=.bool (decide ((x.size:Int)<y.size))) (by simp[results,Tryz.results81,go_sem]) rfl (HE.out _ ⟨bel _ _⟩ (by omega))
def aV (s:ByteArray):Int:=rY s%8
theorem uK (s:ByteArray) (hs:s.size<=1000000000) (w:World):
 vR w 87 #[.string s] (.int .i64 (aV s)):=by
 have hb:0<=rY s/\rY s<4294967296:=xJ s s.size 0 7 (by omega);unfold aV;have h1:=λww=>aTA s hs ww;generalize rY s=h at *;have w5:h.tmod 8=h%8:=Int.tmod_eq_emod_of_nonneg (by omega);have w6:IntKind.i64.wrap (h%8)=h%8:=I64.wrap ⟨by omega,by omega⟩;go_enter Tryz.func87,Tryz.ntmps87;go_wp2_with((go_at_call 119;refine aE (h1 _) λp=>?_));go_ret;exact⟨rfl,bel _ _⟩
def oH (e:Int):Int:=if e=0 then 0 else if e=1101 then 6 else if e=1102 then 6 else 9
theorem aQR (e:Int) (w:World):
 Calls Tryz.prog 84 #[.int .i64 e] w λx w'=>x=.returned (.int .i64 (oH e))/\Below w.heap.size w w':=by
 by_cases h0:e=0
 .subst h0
  go_enter Tryz.func84,Tryz.ntmps84;go_wp2_with fail;go_ret;exact⟨rfl,bel _ _⟩
 have b0:(e==0)=false:=by simpa using h0
 by_cases h1:e=1101
 .subst h1
  go_enter Tryz.func84,Tryz.ntmps84;go_wp2_with fail;go_ret;exact⟨rfl,bel _ _⟩
 have b1:(e==1101)=false:=by simpa using h1
 by_cases h2:e=1102
 .subst h2
  go_enter Tryz.func84,Tryz.ntmps84;go_wp2_with fail;go_ret;exact⟨rfl,bel _ _⟩
 have b2:(e==1102)=false:=by simpa using h2
 have hv:oH e=9:=by simp[oH,h0,h1,h2]
 rw[hv];clear h0 h1 h2 hv;go_enter Tryz.func84,Tryz.ntmps84;go_wp2_with fail;go_ret;exact⟨rfl,bel _ _⟩
section
def bH (S:PSt) (n:Int):Int:=cG (lI n) S.ins
theorem fC (S:PSt) (n:Int):bH S n=-1\/(0<=bH S n/\bH S n<S.ins.length):=jT _ _
theorem vH (S:PSt) (iv ov mv:Value) (n:Int) (w:World) (h:StRead w iv ov mv S) (hlen:S.ins.length<=1000000000):
 vR w 85 #[.agg #[iv,ov,mv],.int .i64 n] (.int .i64 (bH S n)):=by
 obtain⟨ai,ni,ci,ao,no,co,am,nm,cm,rfl,rfl,rfl⟩:=h.slices;obtain⟨a,cap,e1,hat⟩:=h.ins_at;cases e1;have HA:=aG hat;clear hat h;obtain⟨R,hR⟩:∃R,bH S n=R:=⟨_,rfl⟩;rw[hR];unfold bH cG at hR;have HR:=aG hR;clear hR;go_enter Tryz.func85,Tryz.ntmps85;go_wp2_with fail
 go_loopw[5] (λi wr=>∃(q:Nat),i=.int .i64 q/\q<=S.ins.length/\bG (lI n) (S.ins.drop q) q=R/\Below w.heap.size w wr/\Blk wr w.heap.size #[.slice ai S.ins.length ci,.slice ao no co,.slice am nm cm] 26) (λi _=>(S.ins.length-intOf i).toNat)
 case atStart=>exact⟨0,rfl,by omega,HR.out,bel _ _,Blk.new w _ 26⟩
 obtain⟨q,rfl,hq,hre,hb,hblk⟩:=hrel;have iB:Bel w wr:=⟨hb⟩;have iL:=hblk.lt;have s0:=hblk.cell 0;simp at s0;have HB:=aG hblk;clear hblk;by_cases hlt:q<S.ins.length
 .obtain⟨z,hz⟩:∃z,S.ins[q]? =some z:=⟨_,gE hlt⟩
  obtain⟨b,off,ev,rfl,iG0,iG,-,-,c0,-,-,-⟩:=HA.out wr hb q z hz;rw[fO _ S.ins q z hz]at hre;have HZ:=aG hre;clear hz hre;rcases hpz:(z.num==n)with _|_
  .go_wp2_with fail
   go_roundw
   case rel=>exact⟨q+1,by go_num,by omega,by have:=HZ.out;simpa[lI,hpz]using this,bel _ _,by first|exact HB.out|exact HB.out.alloc _|exact HB.out.junk _⟩
   simp[intOf];omega
  have hv:R=q:=by have:=HZ.out;simpa[lI,hpz]using this.symm
  subst hv;go_wp2_with fail;go_ret;exact⟨rfl,bel _ _⟩
 rw[gQ _ S.ins q hlt]at hre;subst hre;go_wp2_with fail;go_ret;exact⟨rfl,bel _ _⟩
def fdL (c f:Int):List PDesc->Int
 |[]=>0
 |d::r=>if(d.core==c&&d.fd==f)=true then d.num else fdL c f r
def nU (S:PSt) (c f:Int):Int:=fdL c f S.op
theorem aQP (S:PSt) (iv ov mv:Value) (c f:Int) (w:World) (h:StRead w iv ov mv S) (hlen:S.op.length<=1000000000):
 vR w 43 #[.agg #[iv,ov,mv],.int .i64 c,.int .i64 f] (.int .i64 (nU S c f)):=by
 obtain⟨ai,ni,ci,ao,no,co,am,nm,cm,rfl,rfl,rfl⟩:=h.slices;obtain⟨a,cap,e1,hat⟩:=h.1.at_;rw[lM]at e1;cases e1;have HA:=aG hat;clear hat h;obtain⟨R,hR⟩:∃R,nU S c f=R:=⟨_,rfl⟩;rw[hR];unfold nU at hR;have HR:=aG hR;clear hR;go_enter Tryz.func43,Tryz.ntmps43;go_wp2_with fail
 go_loopw[7] (λi wr=>∃(q:Nat),i=.int .i64 q/\q<=S.op.length/\fdL c f (S.op.drop q)=R/\Below w.heap.size w wr/\Blk wr w.heap.size #[.slice ai ni ci,.slice ao S.op.length co,.slice am nm cm] 26) (λi _=>(S.op.length-intOf i).toNat)
 case atStart=>exact⟨0,rfl,by omega,HR.out,bel _ _,Blk.new w _ 26⟩
 obtain⟨q,rfl,hq,hre,hb,hblk⟩:=hrel;have iB:Bel w wr:=⟨hb⟩;have iL:=hblk.lt;have s1:=hblk.cell 1;simp at s1;have HB:=aG hblk;clear hblk;by_cases hlt:q<S.op.length
 .obtain⟨z,hz⟩:∃z,S.op[q]? =some z:=⟨_,gE hlt⟩
  obtain⟨b,off,rfl,iG0,iG,hc⟩:=HA.out wr hb q z.cells (by rw[gM,hz];rfl);have c0:=hc 0 _ rfl;have c1:=hc 1 _ rfl;have c2:=hc 2 _ rfl;rw[zN]at c0;rw[bY hz,fdL]at hre;clear hz hc;rcases hpz:(z.core==c)with _|_
  .rw[hpz,yJ,zA (by decide)]at hre;have HZ:=aG hre;clear hre;go_wp2_with fail
   go_roundw
   case rel=>exact⟨q+1,by go_num,by omega,HZ.out,bel _ _,HB.out⟩
   simp[intOf];omega
  rcases hpf:(z.fd==f)with _|_
  .rw[hpf,Bool.and_false,zA (by decide)]at hre;have HZ:=aG hre;clear hre;go_wp2_with fail
   go_roundw
   case rel=>exact⟨q+1,by go_num,by omega,HZ.out,bel _ _,HB.out⟩
   simp[intOf];omega
  rw[hpz,hpf,zB (by decide)]at hre;subst hre;go_wp2_with fail;go_ret;exact⟨rfl,bel _ _⟩
 rw[zS (by omega)]at hre;obtain rfl:R=0:=by rw[<-hre];rfl
 go_wp2_with fail;go_ret;exact⟨rfl,bel _ _⟩
def pA (name:ByteArray):List PEnt->Int
 |[]=>0
 |e::r=>if(e.name.toList==name.toList)=true then e.num else pA name r
def bI (S:PSt) (dir:Int) (name:ByteArray):Int:=if bH S dir<0 then 0 else match S.ins[(bH S dir).toNat]? with|some x=>pA name x.ents|none=>0
theorem gJ (S:PSt) (iv ov mv:Value) (dir:Int) (name:ByteArray) (w:World) (h:StRead w iv ov mv S) (hwf:S.wf):
 vR w 118 #[.agg #[iv,ov,mv],.int .i64 dir,.string name] (.int .i64 (bI S dir name)):=by
 have hA:vB w 85 #[.agg #[iv,ov,mv],.int .i64 dir] (.int .i64 (bH S dir)):=λww hb=>vH S iv ov mv dir ww (h.below hb (zC _)) hwf.1;obtain⟨ai,ni,ci,ao,no,co,am,nm,cm,rfl,rfl,rfl⟩:=h.slices;obtain⟨a,cap,e1,hat⟩:=h.ins_at2;cases e1;have a0:=fC S dir;obtain⟨R,hR⟩:∃R,bI S dir name=R:=⟨_,rfl⟩;rw[hR];unfold bI at hR;generalize bH S dir=K at hA a0 hR;by_cases hK:K<0
 .rw[zB hK]at hR;subst hR;clear hat h a0 hwf
  go_enter Tryz.func118,Tryz.ntmps118;go_wp2_with((go_at_call 85;refine aE (hA _ (bel _ _)) λp=>?_));go_ret;exact⟨rfl,bel _ _⟩
 rw [zA hK]at hR;obtain⟨k,rfl⟩:∃k:Nat,K=k:=⟨K.toNat,by omega⟩;have hk:k<S.ins.length:=by omega
 obtain⟨x,hx⟩:∃x,S.ins[k]? =some x:=⟨_,gE hk⟩;rw[zJ,hx]at hR;simp only at hR;obtain⟨b,off,ev,rfl,iG0,ho,her,hc⟩:=hat k x hx;obtain⟨ae,ce,rfl,hae⟩:=her.at_;rw[lM]at hc;have a1:=(hwf.2.2.2.1 x (mG hx)).2.1;have HA:=bB hae hc;have HR:=aG hR;clear hat h a0 hwf her hae hc ho hR hx;go_enter Tryz.func118,Tryz.ntmps118;go_wp2_with((go_at_call 85;refine aE (hA _ (bel _ _)) λp=>?_))
 go_loopw[8] (λi wr=>∃(q:Nat),i=.int .i64 q/\q<=x.ents.length/\pA name (x.ents.drop q)=R/\Below w.heap.size w wr/\Blk wr w.heap.size #[.slice (some ⟨b,off,none⟩) S.ins.length ci,.slice ao no co,.slice am nm cm] 26) (λi _=>(x.ents.length-intOf i).toNat)
 case atStart=>exact⟨0,rfl,by omega,HR.out,bel _ _,(Blk.new w _ 26).junk _⟩
 obtain⟨q,rfl,hq,hre,hb,hblk⟩:=hrel;have iB:Bel w wr:=⟨hb⟩;have iL:=hblk.lt;have s0:=hblk.cell 0;simp at s0;obtain⟨iG,c0,c1,c2,c3⟩:=HA.out.2 wr hb;clear c0 c1 c3;have HB:=aG hblk;clear hblk;by_cases hlt:q<x.ents.length
 .obtain⟨z,hz⟩:∃z,x.ents[q]? =some z:=⟨_,gE hlt⟩
  obtain⟨be,oe,rfl,iE0,iE,hce⟩:=HA.out.1 wr hb q z.cells (by rw[gM,hz];rfl);have e0:=hce 0 _ rfl;have e1:=hce 1 _ rfl;rw[zN]at e0;rw[bY hz,pA]at hre;clear hz hce;rcases hpz:(z.name.toList==name.toList)with _|_
  .rw[hpz,zA (by decide)]at hre;have HZ:=aG hre;clear hre;go_wp2_with fail
   go_roundw
   case rel=>exact⟨q+1,by go_num,by omega,HZ.out,bel _ _,HB.out⟩
   simp[intOf];omega
  rw[hpz,zB (by decide)]at hre;subst hre;go_wp2_with fail;go_ret;exact⟨rfl,bel _ _⟩
 rw[zS (by omega)]at hre;obtain rfl:R=0:=by rw[<-hre];rfl
 go_wp2_with fail;go_ret;exact⟨rfl,bel _ _⟩
variable {K n:Int} {S:PSt} {iv mv ov:Value} {w:World}
theorem sE (h:StRead w iv ov mv S) (hf:S.ins.length<=1000000000) (he:bH S n=K):vB w 85 #[.agg #[iv,ov,mv],.int .i64 n] (.int .i64 K):=λww hb=>by have:=vH S iv ov mv n ww (h.below hb (zC _)) hf;rw[he]at this;exact this
theorem c43 {c f:Int} (h:StRead w iv ov mv S) (hf:S.op.length<=1000000000) (he:nU S c f=K):vB w 43 #[.agg #[iv,ov,mv],.int .i64 c,.int .i64 f] (.int .i64 K):=λww hb=>by have:=aQP S iv ov mv c f ww (h.below hb (zC _)) hf;rw[he]at this;exact this
theorem aSY {d:Int} {n:ByteArray} (h:StRead w iv ov mv S) (hf:S.wf) (he:bI S d n=K):vB w 118 #[.agg #[iv,ov,mv],.int .i64 d,.string n] (.int .i64 K):=λww hb=>by have:=gJ S iv ov mv d n ww (h.below hb (zC _)) hf;rw[he]at this;exact this
end
def pB (S:PSt) (n:Int):Bool:=if n<2 then false else match S.made[((n-2)%8).toNat]? with|some m=>decide ((n-2)/8<m)|none=>false
theorem aQQ (S:PSt) (iv ov mv:Value) (n:Int) (hn:I64 n) (w:World) (h:StRead w iv ov mv S) (hwf:S.wf):
 vR w 60 #[.agg #[iv,ov,mv],.int .i64 n] (.bool (pB S n)):=by
 obtain⟨ai,ni,ci,ao,no,co,am,nm,cm,rfl,rfl,rfl⟩:=h.slices;obtain⟨a,cap,e1,hat⟩:=h.2.1.at_;rw[lM]at e1;cases e1;have a3:=hwf.2.2.1;obtain⟨R,hR⟩:∃R,pB S n=R:=⟨_,rfl⟩;rw[hR];unfold pB at hR;clear h hwf;by_cases h2:n<2
 .rw[zB h2]at hR;subst hR;clear hat
  go_enter Tryz.func60,Tryz.ntmps60;go_wp2_with fail;go_ret;exact⟨rfl,bel _ _⟩
 rw[zA h2]at hR;have a4:=hn.2;have w1:IntKind.i64.wrap (n-2)=n-2:=I64.wrap ⟨by omega,by omega⟩;have w2:(n-2).tmod 8=(n-2)%8:=Int.tmod_eq_emod_of_nonneg (by omega);have w3:(n-2).tdiv 8=(n-2)/8:=Int.tdiv_eq_ediv_of_nonneg (by omega);obtain⟨k,hk⟩:∃k:Nat,(n-2)%8=k:=⟨((n-2)%8).toNat,by omega⟩;obtain⟨d,hd⟩:∃d:Int,(n-2)/8=d:=⟨_,rfl⟩;have a1:IntKind.i64.wrap d=d:=I64.wrap ⟨by omega,by omega⟩;have a5:k<8:=by omega
 have a2:IntKind.i64.wrap (k:Int)=k:=I64.wrap ⟨by omega,by omega⟩;rw[hk,hd,zJ]at hR;rw[hk]at w2;rw[hd]at w3;clear hk hd;by_cases hlt:k<S.made.length
 .obtain⟨m,hm⟩:∃m,S.made[k]? =some m:=⟨_,gE hlt⟩
  rw[hm]at hR;simp only at hR;obtain⟨b,off,rfl,iG0,-,hc⟩:=hat w (bel _ _) k (aK m) (by rw[gM,hm];rfl);have c0:=hc 0 _ rfl;rw[Nat.mul_one,zN]at c0;subst hR;clear hc hat hm hn;have a0:(k:Int)<S.made.length:=by omega
  go_enter Tryz.func60,Tryz.ntmps60;go_wp2_with fail;go_ret;exact⟨rfl,bel _ _⟩
 rw[List.getElem?_eq_none (by omega)]at hR;simp only at hR;subst hR;clear hat hn;have a0:¬(k:Int)<S.made.length:=by omega
 go_enter Tryz.func60,Tryz.ntmps60;go_wp2_with fail;go_ret;exact⟨rfl,bel _ _⟩
def sK (n:Int):List PEnt->Int->Int
 |[],a=>a
 |e::r,a=>sK n r (if (e.num==n)=true then a+1 else a)
def lkI (n:Int):List PIn->Int->Int
 |[],a=>a
 |x::r,a=>lkI n r (if x.dir=true then sK n x.ents a else a)
def cQ (S:PSt) (n:Int):Int:=lkI n S.ins 0
theorem aAU (S:PSt) (iv ov mv:Value) (n:Int) (w:World) (h:StRead w iv ov mv S) (hwf:S.wf):
 vR w 62 #[.agg #[iv,ov,mv],.int .i64 n] (.int .i64 (cQ S n)):=by
 obtain⟨ai,ni,ci,ao,no,co,am,nm,cm,rfl,rfl,rfl⟩:=h.slices;obtain⟨a,cap,e1,hat⟩:=h.ins_at2;cases e1;have a2:=hwf.1;have a3:=aG hwf;have a4:=aG hat;clear hat h hwf;obtain⟨R,hR⟩:∃R,cQ S n=R:=⟨_,rfl⟩;rw[hR];unfold cQ at hR;have HR:=aG hR;clear hR;go_enter Tryz.func62,Tryz.ntmps62;go_wp2_with fail
 go_loopw[5,6] (λv i wr=>∃(q:Nat) (m:Int),i=.int .i64 q/\v=.int .i64 m/\0<=m/\m<=1000000000*q/\q<=S.ins.length/\lkI n (S.ins.drop q) m=R/\Below w.heap.size w wr/\Blk wr w.heap.size #[.slice ai S.ins.length ci,.slice ao no co,.slice am nm cm] 26) (λ_ i _=>(S.ins.length-intOf i).toNat)
 case atStart=>exact⟨0,0,rfl,rfl,by omega,by omega,by omega,HR.out,bel _ _,Blk.new w _ 26⟩
 obtain⟨q,m,rfl,rfl,hm0,hm1,hq,hre,hb,hblk⟩:=hrel;have iB:Bel w wr:=⟨hb⟩;have iL:=hblk.lt;have s0:=hblk.cell 0;simp at s0;by_cases hlt:q<S.ins.length
 .obtain ⟨x,hx⟩:∃x,S.ins[q]? =some x:=⟨_,gE hlt⟩
  obtain⟨b,off,ev,rfl,iG0,ho,her,hc⟩:=a4.out q x hx;obtain⟨ae,ce,rfl,hae⟩:=her.at_;rw[lM]at hc;have a5:=(a3.out.2.2.2.1 x (mG hx)).2.1;have HA:=bB hae hc;obtain⟨iG,c0,c1,c2,c3⟩:=hc wr hb;have HB:=aG hblk;rw[bY hx,lkI]at hre;clear her hae hc ho hblk c0 c3 c1 c2 hx;obtain⟨xn,xd,xe,xs⟩:=x;simp only at hre HA a5;rcases xd with _|_
  .rw [zA (by decide)]at hre;obtain⟨_,_,c1,c2,_⟩:=HA.out.2 wr hb;have a0:=aG hre;clear hre;by_cases h0:0<xe.length
   .have a6:(0:Int)<xe.length:=by omega
    go_wp2_with fail
    go_loopw[5,7] (λv i wr'=>v=.int .i64 m/\i=.int .i64 0/\wr'=wr) (λ_ i _=>0)
    case atStart=>exact⟨rfl,rfl,rfl⟩
    obtain⟨rfl,rfl,rfl⟩:=hrel;go_wp2_with fail;go_roundw
    case rel=>exact⟨q+1,m,by rfl,rfl,hm0,by omega,by omega,a0.out,bel _ _,HB.out⟩
    simp[intOf];omega
   have a6:¬(0:Int)<xe.length:=by omega
   go_wp2_with fail
   go_loopw[5,7] (λv i wr'=>v=.int .i64 m/\i=.int .i64 0/\wr'=wr) (λ_ i _=>0)
   case atStart=>exact⟨rfl,rfl,rfl⟩
   obtain⟨rfl,rfl,rfl⟩:=hrel;go_wp2_with fail;go_roundw
   case rel=>exact⟨q+1,m,by rfl,rfl,hm0,by omega,by omega,a0.out,bel _ _,HB.out⟩
   simp[intOf];omega
  rw [zB rfl]at hre;have a0:=aG hre;clear hre;go_wp2_with fail
  go_loopw[5,7] (λv i wr'=>∃(j:Nat) (m':Int),i=.int .i64 j/\v=.int .i64 m'/\0<=m'/\m'<=1000000000*q+j/\j<=xe.length/\lkI n (S.ins.drop (q+1)) (sK n (xe.drop j) m')=R/\Below w.heap.size w wr'/\Blk wr' w.heap.size #[.slice (some ⟨b,off,none⟩) S.ins.length ci,.slice ao no co,.slice am nm cm] 26) (λ_ i _=>(xe.length-intOf i).toNat)
  case atStart=>exact⟨0,m,rfl,rfl,by omega,by omega,by omega,a0.out,bel _ _,HB.out⟩
  clear a0 HB iB iL s0 hb iG;obtain⟨j,m',rfl,rfl,hm2,hm3,hj,hre,hb,hblk⟩:=hrel;have iB:Bel w wr:=⟨hb⟩;have iL:=hblk.lt;have s0:=hblk.cell 0;simp at s0;obtain⟨iG,c0,c1,c2,c3⟩:=HA.out.2 wr hb;have HB:=aG hblk;clear hblk c0 c3;by_cases hlj:j<xe.length
  .obtain⟨z,hz⟩:∃z,xe[j]? =some z:=⟨_,gE hlj⟩
   obtain⟨be,oe,rfl,iE0,iE,hce⟩:=HA.out.1 wr hb j z.cells (by rw[gM,hz];rfl);have e1:=hce 1 _ rfl;rw[bY hz,sK]at hre;clear hz hce;have a1:(j:Int)<xe.length:=by omega
   have w1:IntKind.i64.wrap (m'+1)=m'+1:=I64.wrap ⟨by omega,by omega⟩;rcases hpz:(z.num==n)with _|_
   .rw[hpz,zA (by decide)]at hre;have HZ:=aG hre;clear hre;go_wp2_with fail
    go_roundw
    case rel=>exact⟨j+1,m',by rfl,rfl,by omega,by omega,by omega,HZ.out,bel _ _,HB.out⟩
    simp[intOf];omega
   rw[hpz,zB (by decide)]at hre;have HZ:=aG hre;clear hre;go_wp2_with fail;go_roundw
   case rel=>exact⟨j+1,m'+1,by rfl,rfl,by omega,by omega,by omega,HZ.out,bel _ _,HB.out⟩
   simp[intOf];omega
  rw[show xe.drop j=[]from zS (by omega),sK]at hre;have a1:¬(j:Int)<xe.length:=by omega
  have HZ:=aG hre;clear hre;go_wp2_with fail;go_roundw
  case rel=>exact⟨q+1,m',by rfl,rfl,hm2,by omega,by omega,HZ.out,bel _ _,HB.out⟩
  simp[intOf];omega
 rw[zS (by omega),lkI]at hre;subst hre;go_wp2_with fail;go_ret;exact⟨rfl,bel _ _⟩
theorem Blk.apart {w:World} {b b' o:Nat} {c:Array Value} {t:TypeId} {v:Value} (h:Blk w b c t) (hne:b≠b'):Blk (w.setCell ⟨b',o,none⟩ v) b c t:=by unfold Blk;rw[Below.heap_setCell _ _ _ _ (by show b≠b';exact hne)];exact h
theorem uH (s:ByteArray):0<=aV s/\aV s<8:=by unfold aV;omega
def jE (prev:Option ByteArray) (s:ByteArray):Bool:=match prev with|some p=>!dL p s|none=>false
def fY (S:PSt):Option ByteArray->List Int->List PEnt->Bool
 |_,_,[]=>true
 | prev,sl,e::r=>
   if(bT e.name !=0)=true then false else if jE prev e.name=true then false else if e.num=1 then false else if bH S e.num<0 then false else
   match sl[(aV e.name).toNat]? with
   |some x=>if 4<x+1 then false else fY S (some e.name) (sl.set (aV e.name).toNat (x+1)) r
   |none=>false
def uI (S:PSt) (es:List PEnt):Bool:=fY S none [0,0,0,0,0,0,0,0] es
theorem aAV (s:ByteArray) (h:(bT s !=0)=false):s.size<=12:=by
 unfold bT at h;by_cases hl:12<s.size
 .rw[zB hl]at h;simp at h
 omega
theorem mk8 (u:World):(Instr.makeSlice 24 (.int .i64 8) (.int .i64 8)).run Tryz.prog u=.ok (.slice (some ⟨u.heap.size,0,none⟩) 8 8) (u.alloc (.cells (([0,0,0,0,0,0,0,0]:List Int).map λx=>Value.int .i64 x).toArray 3)):=by obtain⟨i0,hi,hz0,hz1,hz2⟩:=info_parts uQ;have:=run_makeSlice (P:=Tryz.prog) u 24 3 i0 _ Tryz.underlying24 hi hz0 .i64 .i64 8 8 (by omega) (Int.le_refl _) (by rw[hz1];omega) (by rw[hz2];omega) (by omega);have e:(([0,0,0,0,0,0,0,0]:List Int).map λx=>Value.int .i64 x)=(List.replicate 8 (0:Int)).map λx=>Value.int .i64 x:=rfl;rw[e,<-xF (λx=>Value.int .i64 x)];simpa[hz1,Value.cells]using this
theorem aKR (S:PSt) (iv ov mv:Value) (xn:Int) (xd:Bool) (xs:ByteArray) (ev:Value) (es:List PEnt) (w:World) (h:StRead w iv ov mv S) (hwf:S.wf) (he:RowAt w 2 ev (es.map PEnt.cells)) (hlen:es.length<=1000000000):
 vR w 61 #[.agg #[iv,ov,mv],.agg #[.int .i64 xn,.bool xd,ev,.string xs]] (.bool (uI S es)):=by
 have a3:∀n ww,Below w.heap.size w ww->vR ww 85 #[.agg #[iv,ov,mv],.int .i64 n] (.int .i64 (bH S n)):=λn ww hb=>vH S iv ov mv n ww (h.below hb (zC _)) hwf.1;obtain⟨ai,ni,ci,ao,no,co,am,nm,cm,rfl,rfl,rfl⟩:=h.slices;obtain⟨a,cap,rfl,hat⟩:=he.at_;have HA:=aG hat;clear h hwf he hat;rw[lM];have b9:=mk8;unfold uI;obtain⟨R,hR⟩:∃R,fY S none [0,0,0,0,0,0,0,0] es=R:=⟨_,rfl⟩;rw[hR];have HR:=aG hR;clear hR;go_enter Tryz.func61,Tryz.ntmps61;go_wp2_with fail
 go_loopw[6] (λi wr=>∃(q:Nat) (sl:List Int),i=.int .i64 q/\q<=es.length/\sl.length=8/\(∀(k:Nat) (x:Int),sl[k]? =some x->0<=x/\x<=4)/\(∀p,dF es q=some p->p.size<=12)/\fY S (dF es q) sl (es.drop q)=R/\Below w.heap.size w wr/\Blk wr (w.heap.size+1+1) (sl.map λx=>.int .i64 x).toArray 3/\Blk wr w.heap.size #[.slice ai ni ci,.slice ao no co,.slice am nm cm] 26/\Blk wr (w.heap.size+1) #[.int .i64 xn,.bool xd,.slice a es.length cap,.string xs] 68) (λi _=>(es.length-intOf i).toNat)
 case atStart=>
  refine⟨0,[0,0,0,0,0,0,0,0],rfl,by omega,rfl,?_,λp hp=>by simp[dF]at hp,HR.out,bel _ _,?_,?_,?_⟩
  .intro k x hk;have:=mG hk;simp at this;omega
  .exact Blk.new_i _ _ _ _
  .exact((Blk.new w _ 26).alloc _).alloc _
  exact(Blk.new_i _ _ _ _:Blk ((w.alloc _).alloc _) (w.heap.size+1) _ _).alloc _
 obtain⟨q,sl,rfl,hq,hsl,hsb,hpz,hre,hb,hblk,hbs,hbx⟩:=hrel;have iB:Bel w wr:=⟨hb⟩;have iL:=hblk.lt;have c4:=hbs.lt;have c5:=hbx.lt;have s0:=hbs.cell 0;have s1:=hbs.cell 1;have s2:=hbs.cell 2;have x2:=hbx.cell 2;simp at s0 s1 s2 x2;have HB:=dR hblk hbs hbx;clear hblk hbs hbx;by_cases hlt:q<es.length
 .obtain ⟨z,hz⟩:∃z,es[q]? =some z:=⟨_,gE hlt⟩
  obtain⟨b1,off,rfl,iG0,iG,hc⟩:=HA.out wr hb q z.cells (by rw[gM,hz];rfl);have c0:=hc 0 _ rfl;have c1:=hc 1 _ rfl;rw[zN]at c0;rw[bY hz]at hre;unfold fY at hre;have a1:=λww=>aHQ z.name ww;have a0:=λww hww=>a3 z.num ww hww;have HZ:=aG hz;have HS:=bB hsl hsb;have a6:=aAV z.name;clear hc hz a3 hsl hsb;generalize hck:bT z.name=ck at a1 hre a6;rcases hn:(ck !=0)with _|_
  .have a6 :=a6 hn;rw[hn,zA (by decide)]at hre;have a4:=λww=>uK z.name (by omega) ww
   have b4:(q=0/\dF es q=none)\/∃(k:Nat) (y:PEnt),(q:Int)-1=k/\k<es.length/\0<(q:Int)/\dF es q=some y.name/\wr.cell? ⟨b1,off+k*2,none⟩=some (.string y.name):=by
    by_cases hq0:q=0
    .exact .inl ⟨hq0,by simp[dF,hq0]⟩
    obtain⟨y,hy⟩:∃y,es[q-1]? =some y:=⟨_,gE (by omega)⟩;refine .inr ⟨q-1,y,by omega,by omega,by omega,by simp[dF,hq0,hy],?_⟩;obtain⟨b2,off2,he2,_,_,hc2⟩:=HA.out wr hb (q-1) y.cells (by rw[gM,hy];rfl);cases he2;exact hc2 0 _ rfl
   obtain⟨bk,hbkv⟩:∃bk:Nat,aV z.name=bk:=⟨(aV z.name).toNat,by have:=uH z.name;omega⟩;have b5:bk<8:=by have:=uH z.name;omega
   have a9:(bk:Int)<8:=by omega
   obtain⟨x,hx⟩:∃x,sl[bk]? =some x:=⟨_,gE (by have:=HS.out.1;omega)⟩;obtain⟨hx0,hx4⟩:=HS.out.2 bk x hx;have c3:wr.cell? ⟨w.heap.size+1+1,bk,none⟩=some (.int .i64 x):=by rw[HB.out.1.cell bk];simp[hx]
   have fz:wr.frozen? ⟨w.heap.size+1+1,bk,none⟩=false:=HB.out.1.frozen bk;rw[hbkv,zJ,hx]at hre;simp only at hre;rw[hbkv]at a4;have ew:IntKind.i64.wrap (x+1)=x+1:=I64.wrap ⟨by omega,by omega⟩;have b0:∀(wz:World),Bel w wz->Blk wz (w.heap.size+1+1) ((sl.map λx=>Value.int .i64 x).toArray.setIfInBounds bk (.int .i64 (x+1))) 3->Blk wz w.heap.size #[.slice ai ni ci,.slice ao no co,.slice am nm cm] 26->Blk wz (w.heap.size+1) #[.int .i64 xn,.bool xd,.slice (some ⟨b1,off,none⟩) es.length cap,.string xs] 68->¬4<x+1->fY S (some z.name) (sl.set bk (x+1)) (es.drop (q+1))=R->
    ∃(q':Nat) (sl:List Int),Value.int .i64 ((q:Int)+1)=.int .i64 q'/\q'<=es.length/\sl.length=8/\(∀(k:Nat) (x:Int),sl[k]? =some x->0<=x/\x<=4)/\(∀p,dF es q'=some p->p.size<=12)/\fY S (dF es q') sl (es.drop q')=R/\Below w.heap.size w wz/\Blk wz (w.heap.size+1+1) (sl.map λx=>.int .i64 x).toArray 3/\Blk wz w.heap.size #[.slice ai ni ci,.slice ao no co,.slice am nm cm] 26/\Blk wz (w.heap.size+1) #[.int .i64 xn,.bool xd,.slice (some ⟨b1,off,none⟩) es.length cap,.string xs] 68:=by
    intro wz hwz hbz hbz1 hbz2 hx5 hr;have hp:dF es (q+1)=some z.name:=by unfold dF;rw[zA (by omega),Nat.add_sub_cancel,HZ.out];rfl
    refine⟨q+1,sl.set bk (x+1),by rfl,by omega,by rw[yB];exact HS.out.1,?_,?_,?_,hwz.below,?_,hbz1,hbz2⟩
    .intro k u hu;by_cases hkb:bk=k
     .subst hkb;have b6:bk<sl.length:=by have:=HS.out.1;omega
      rw[zY b6]at hu;cases hu;omega
     rw[zX hkb]at hu;exact HS.out.2 k u hu
    .intro p hp2;rw[hp]at hp2;cases hp2;exact a6
    .rw[hp];exact hr
    rw[sA,<-List.map_set]at hbz;exact hbz
   have b3:=aG b0;have HP:=aG hpz;clear b0 hbkv hx hpz;rcases b4 with⟨rfl,hp⟩|⟨k,y,hk1,hkl,hq1,hp,c2⟩
   .rw [hp]at hre;simp only[Nat.zero_mul,zN]at c0 c1;have a5:jE none z.name=false:=rfl;rw[a5,zA (by decide)]at hre;clear hp a5;by_cases h1:z.num=1
    .rw[zB h1]at hre;have a7:(z.num==1)=true:=by simpa using h1
     subst hre;clear h1;go_wp2_with fail;refine qR ?_
     repeat(go_big_quiet_step (first|(with_reducible first|refine cI (a1 _)|refine cJ (a1 _))|(with_reducible first|refine cI (a0 _ (bel _ _))|refine cJ (a0 _ (bel _ _)))))
     refine QN λp=>?_;go_wp2_with fail;go_ret;exact⟨rfl,bel _ _⟩
    rw [zA h1]at hre;have a7:(z.num==1)=false:=by simpa using h1
    generalize bH S z.num=fv at a0 hre;by_cases h2:fv<0
    .rw[zB h2]at hre;subst hre;go_wp2_with fail;refine qR ?_
     repeat(go_big_quiet_step (first|(with_reducible first|refine cI (a1 _)|refine cJ (a1 _))|(with_reducible first|refine cI (a0 _ (bel _ _))|refine cJ (a0 _ (bel _ _)))))
     refine QN λp=>?_;go_wp2_with fail;go_ret;exact⟨rfl,bel _ _⟩
    rw[zA h2]at hre;by_cases h3:4<x+1
    .rw[zB h3]at hre;subst hre;go_wp2_with fail;refine qR ?_
     repeat(go_big_quiet_step (first|(with_reducible first|refine cI (a1 _)|refine cJ (a1 _))|(with_reducible first|refine cI (a0 _ (bel _ _))|refine cJ (a0 _ (bel _ _)))))
     refine QN λp=>?_;go_wp2_with((go_at_call 87;refine aE (a4 _) λp=>?_));go_ret;exact⟨rfl,bel _ _⟩
    rw[zA h3]at hre;have a8:=aG hre;clear hre;go_wp2_with fail;refine qR ?_
    repeat(go_big_quiet_step (first|(with_reducible first|refine cI (a1 _)|refine cJ (a1 _))|(with_reducible first|refine cI (a0 _ (bel _ _))|refine cJ (a0 _ (bel _ _)))))
    refine QN λp=>?_;go_wp2_with((go_at_call 87;refine aE (a4 _) λp=>?_));go_roundw
    case rel=>exact b3.out _ ⟨bel _ _⟩ (((HB.out.1.set_ _ _).alloc _).junk _) (((Blk.apart HB.out.2.1 (by omega)).alloc _).junk _) (((Blk.apart HB.out.2.2 (by omega)).alloc _).junk _) h3 a8.out
    simp[intOf];omega
   have b7 :=HP.out y.name hp;rw[hp]at hre;have a5:jE (some y.name) z.name=!dL y.name z.name:=rfl;rw[a5]at hre;clear hp a5;have b8:0<q:=by omega
   have c6:IntKind.i64.wrap (k:Int)=k:=I64.wrap ⟨by omega,by omega⟩;have a2:=λww=>aHR y.name z.name (by omega) ww;generalize dL y.name z.name=bl at a2 hre;rcases bl with _|_
   .rw[Bool.not_false,zB rfl]at hre;subst hre;go_wp2_with fail;refine qR ?_
    repeat(go_big_quiet_step (first|(with_reducible first|refine cI (a1 _)|refine cJ (a1 _))|(with_reducible first|refine cI (a2 _)|refine cJ (a2 _))|(with_reducible first|refine cI (a0 _ (bel _ _))|refine cJ (a0 _ (bel _ _)))))
    refine QN λp=>?_;go_wp2_with fail;go_ret;exact⟨rfl,bel _ _⟩
   rw [Bool.not_true,zA (by decide)]at hre;by_cases h1:z.num=1
   .rw[zB h1]at hre;have a7:(z.num==1)=true:=by simpa using h1
    subst hre;clear h1;go_wp2_with fail;refine qR ?_
    repeat(go_big_quiet_step (first|(with_reducible first|refine cI (a1 _)|refine cJ (a1 _))|(with_reducible first|refine cI (a2 _)|refine cJ (a2 _))|(with_reducible first|refine cI (a0 _ (bel _ _))|refine cJ (a0 _ (bel _ _)))))
    refine QN λp=>?_;go_wp2_with fail;go_ret;exact⟨rfl,bel _ _⟩
   rw [zA h1]at hre;have a7:(z.num==1)=false:=by simpa using h1
   generalize bH S z.num=fv at a0 hre;by_cases h2:fv<0
   .rw[zB h2]at hre;subst hre;go_wp2_with fail;refine qR ?_
    repeat(go_big_quiet_step (first|(with_reducible first|refine cI (a1 _)|refine cJ (a1 _))|(with_reducible first|refine cI (a2 _)|refine cJ (a2 _))|(with_reducible first|refine cI (a0 _ (bel _ _))|refine cJ (a0 _ (bel _ _)))))
    refine QN λp=>?_;go_wp2_with fail;go_ret;exact⟨rfl,bel _ _⟩
   rw[zA h2]at hre;by_cases h3:4<x+1
   .rw[zB h3]at hre;subst hre;go_wp2_with fail;refine qR ?_
    repeat(go_big_quiet_step (first|(with_reducible first|refine cI (a1 _)|refine cJ (a1 _))|(with_reducible first|refine cI (a2 _)|refine cJ (a2 _))|(with_reducible first|refine cI (a0 _ (bel _ _))|refine cJ (a0 _ (bel _ _)))))
    refine QN λp=>?_;go_wp2_with((go_at_call 87;refine aE (a4 _) λp=>?_));go_ret;exact⟨rfl,bel _ _⟩
   rw[zA h3]at hre;have a8:=aG hre;clear hre;go_wp2_with fail;refine qR ?_
   repeat(go_big_quiet_step (first|(with_reducible first|refine cI (a1 _)|refine cJ (a1 _))|(with_reducible first|refine cI (a2 _)|refine cJ (a2 _))|(with_reducible first|refine cI (a0 _ (bel _ _))|refine cJ (a0 _ (bel _ _)))))
   refine QN λp=>?_;go_wp2_with((go_at_call 87;refine aE (a4 _) λp=>?_));go_roundw
   case rel=>exact b3.out _ ⟨bel _ _⟩ (((HB.out.1.set_ _ _).alloc _).junk _) (((Blk.apart HB.out.2.1 (by omega)).alloc _).junk _) (((Blk.apart HB.out.2.2 (by omega)).alloc _).junk _) h3 a8.out
   simp[intOf];omega
  rw[hn,zB rfl]at hre;subst hre;go_wp2_with fail;refine qR ?_
  repeat(go_big_quiet_step (first|(with_reducible first|refine cI (a1 _)|refine cJ (a1 _))|(with_reducible first|refine cI (a0 _ (bel _ _))|refine cJ (a0 _ (bel _ _)))))
  refine QN λp=>?_;go_wp2_with fail;go_ret;exact⟨rfl,bel _ _⟩
 rw[zS (by omega)]at hre;obtain rfl:R=true:=by rw[<-hre];rfl
 go_wp2_with fail;go_ret;exact⟨rfl,bel _ _⟩
section
def TodoI (X:Nat->Prop) (w:World) (v:Value) (xs:List Int):Prop:=
 ∃g off cap arr,v=.slice (some ⟨g,off,none⟩) xs.length cap/\¬X g/\Blk w g arr 3/\xs.length<=cap/\off+cap<=arr.size/\∀(i:Nat) (x:Int),xs[i]? =some x->arr[off+i]? =some (.int .i64 x)
variable {v:Value} {w:World} {xs:List Int}
theorem TodoI.alloc {X:Nat->Prop} (h:TodoI X w v xs) (o:Obj):TodoI X (w.alloc o) v xs:=by obtain⟨g,off,cap,arr,e,hx,hb,r⟩:=h;exact⟨g,off,cap,arr,e,hx,hb.alloc o,r⟩
theorem TodoI.junk {X:Nat->Prop} (h:TodoI X w v xs) (o:Behind):TodoI X (w.junk o) v xs:=by obtain⟨g,off,cap,arr,e,hx,hb,r⟩:=h;exact⟨g,off,cap,arr,e,hx,hb.junk o,r⟩
theorem TodoI.far {X:Nat->Prop} (h:TodoI X w v xs) {a:Addr} (ha:X a.block) (u:Value):TodoI X (w.setCell a u) v xs:=by obtain⟨g,off,cap,arr,e,hx,hb,r⟩:=h;exact⟨g,off,cap,arr,e,hx,hb.far (λe=>hx (by rw[e];exact ha)) u,r⟩
theorem oC {P:Program} (hP:P.underlying 24=some (.slice 3)) (hI:(P.info? 3).map (λi=>(i.zero,i.size,i.bytes))=some (some (.int .i64 0),1,8))
 (w:World) {ops:Array Oper} {rest:List Oper} {o:Oper} {a:Act} {Q:Exit->Act->World->Prop} (hg:o.guard=none) (s x:Operand)
 (hop:o.op=Op.call { callee:=Callee.builtin Builtin.append,args:=#[s,x],argTypes:=#[24,24]}) (X:Nat->Prop) (v:Value) (xs:List Int) (hs:a.eval s=v) (ht:TodoI X w v xs) (hX:∀g,w.heap.size<=g->¬X g)
 (ad:Addr) (c:Nat) (k:Int) (hx:a.eval x=.slice (some ad) 1 c) (hc:w.cell? ad=some (.int .i64 k)) (hlen:xs.length<=1000000000000)
 (hK:∀v' w',TodoI X w' v' (xs++[k])->Keep (λg=>¬X g) w w'->wpList P ops Q rest (a.put o.dst v') w'):
 wpList P ops Q (o::rest) a w:=by
 obtain⟨i0,hi,hz0,hz1,hz2⟩:=info_parts hI;obtain⟨g,off,cap,arr,rfl,hnx,hb,hle,har,hel⟩:=ht;refine wpList_append_arg w hg s x 24 hop 3 i0 (.int .i64 0) 1 8 hP hi hz0 hz1 hz2 rfl (by decide) g off xs.length cap (xs.map λy:Int=>.int .i64 y) hs (by simp) ?_ ad 1 c [.int .i64 k] hx rfl ?_ ?_ ?_ (by unfold maxLen;omega) (by omega) ?_ ?_
 .intro j u hj;rw[gM]at hj;obtain⟨y,hy,rfl⟩:=Option.map_eq_some_iff.1 hj;rw[hb.cell];exact hel j y hy
 .intro j u hj;have:j=0:=by
   rcases j with _|j
   .rfl
   simp at hj
  subst this;simp only[zH,zF]at hj;subst hj;have e:ad.add 0=ad:=by unfold Addr.add;split<;>simp_all
  rw[e];exact hc
 .intro u hu;simp only[List.mem_singleton]at hu;subst hu;rfl
 .intro hr j hj;simp only[zK,yW]at hj;obtain rfl:j=0:=by omega
  rw[hb.cell,hb.frozen,zN,Nat.mul_one];refine⟨?_,rfl⟩;rw[yA (by omega)];rfl
 .intro hr;refine hK _ _ ⟨g,off,cap,arr.setIfInBounds (off+xs.length) (.int .i64 k),by simp,hnx,?_,by simp;omega,by simp;omega,?_⟩ ?_
  .simp only[Nat.mul_one,World.setCells];exact hb.set_ _ _
  .intro i y hy;rw[yE];by_cases hi:i<xs.length
   .rw[zZ hi]at hy;rw[zA (by omega)];exact hel i y hy
   rw[yC (by omega)]at hy;have h0:i-xs.length=0:=by
    rcases hq:i-xs.length with _|j
    .rfl
    rw[hq]at hy;simp at hy
   rw[h0]at hy;simp only[zH,zF]at hy;subst hy;obtain rfl:i=xs.length:=by omega
   rw[zB rfl,zB (by omega)]
  simp only[Nat.mul_one,World.setCells];exact(Keep.refl _ w).setCell (p:=⟨g,_,none⟩) (.inl hnx) _
 intro hr v' w' hown hgr;refine hK _ _ ?_ ((Keep.refl _ w).grown hgr (by simp));obtain⟨hl,h0|⟨g',cap',cur,rfl,hge,hcur,hnc,hcm,hsz,htk⟩⟩:=hown
 .omega
 refine⟨g',0,cap',cur,by simp,hX g' hge,hcur,by simp;omega,by omega,?_⟩;intro i y hy;have a0:i<xs.length+1:=by obtain⟨h,_⟩:=gI.1 hy;simpa using h
 have h2:(cur.toList.take ((xs.length+1)*1))[i]? =some (.int .i64 y):=by
  rw[htk];have:(xs.map (λy:Int=>Value.int .i64 y)++[.int .i64 k])=(xs++[k]).map (λy:Int=>Value.int .i64 y):=by simp
  rw[this,gM,hy];rfl
 rw[yO,zB (by omega)]at h2;rw[zM];simpa using h2
def nF:List PIn->List Bool->Nat
 |x::r,b::fd=>(if b=true then 0 else x.ents.length)+nF r fd
 |_,_=>0
theorem uJ:∀(xs:List PIn) (fd:List Bool) (k:Nat) (x:PIn),xs[k]? =some x->fd[k]? =some false->nF xs (fd.set k true)+x.ents.length=nF xs fd
 |[],_,_,_,h,_=>by simp at h
 |_::_,[],_,_,_,h=>by simp at h
 | y::r,b::fd,0,x,h1,h2=>by simp at h1 h2;subst h1;subst h2;simp[nF];omega
 | y::r,b::fd,k+1,x,h1,h2=>by have:=uJ r fd k x (by simpa using h1) (by simpa using h2);simp only[sS,nF];omega
def jF (x:PIn):List Int:=if x.dir=true then x.ents.map PEnt.num else[]
def fD (S:PSt):Nat->List Int->List Bool->List Bool
 |0,_,fd=>fd
 |_+1,[],fd=>fd
 | g+1,n::st,fd=>
   if bH S n<0 then fD S g st fd
   else if fd.getD (bH S n).toNat true=true then fD S g st fd
   else match S.ins[(bH S n).toNat]? with
    |some x=>fD S g ((jF x).reverse++st) (fd.set (bH S n).toNat true)
    |none=>fd
def eM (S:PSt):List Bool:=fD S (1+nF S.ins (List.replicate S.ins.length false)) [1] (List.replicate S.ins.length false)
theorem aHP (B:Nat):∀(xs:List PIn) (fd:List Bool),(∀x∈xs,x.ents.length<=B)->nF xs fd<=B*xs.length
 |[],_,_=>by simp[nF]
 |_::_,[],_=>by simp[nF]
 | x::r,b::fd,h=>by
   have h1:=aHP B r fd (λy hy=>h y (zL _ hy));have h2:=h x (by simp);have h3:B*(r.length+1)=B*r.length+B:=by rw[Nat.mul_add,Nat.mul_one]
   simp only[nF,zK];rw[h3];split<;>omega
theorem aKS (S:PSt) (iv ov mv:Value) (w:World) (h:StRead w iv ov mv S) (hwf:S.wf) (hsm:S.ins.length<=300):
 Calls Tryz.prog 59 #[.agg #[iv,ov,mv]] w λe w'=>∃F:Nat,e=.returned (.slice (some ⟨F,0,none⟩) S.ins.length S.ins.length)/\Below w.heap.size w w'/\RowAt w' 1 (.slice (some ⟨F,0,none⟩) S.ins.length S.ins.length) ((eM S).map bK):=by
 have b4:∀n ww,Below w.heap.size w ww->vR ww 85 #[.agg #[iv,ov,mv],.int .i64 n] (.int .i64 (bH S n)):=λn ww hb=>vH S iv ov mv n ww (h.below hb (zC _)) hwf.1;obtain⟨ai,ni,ci,ao,no,co,am,nm,cm,rfl,rfl,rfl⟩:=h.slices;obtain⟨a,cap,e1,hai⟩:=h.ins_at2;cases e1;have HI:=aG hai;have c5:=aG hwf.2.2.2.1;have b0:nF S.ins (List.replicate S.ins.length false)<=300000000000:=by have h1:=aHP 1000000000 S.ins (List.replicate S.ins.length false) (λx hx=>(hwf.2.2.2.1 x hx).2.1);have h2:1000000000*S.ins.length<=1000000000*300:=Nat.mul_le_mul_left _ hsm;omega
 clear h hai hwf;obtain⟨j0,ji,jz0,jz1,jz2⟩:=info_parts aOX;have c6:∀u:World,(Instr.makeSlice 39 (.int .i64 S.ins.length) (.int .i64 S.ins.length)).run Tryz.prog u=.ok (.slice (some ⟨u.heap.size,0,none⟩) S.ins.length S.ins.length) (u.alloc (.cells ((List.replicate S.ins.length false).map λx=>Value.bool x).toArray 4)):=λu=>by have:=run_makeSlice (P:=Tryz.prog) u 39 4 j0 _ Tryz.underlying39 ji jz0 .i64 .i64 S.ins.length S.ins.length (by omega) (Int.le_refl _) (by rw[jz1];omega) (by rw[jz2];omega) (by omega);rw[<-pZ (λx=>Value.bool x)];simpa[jz1,Value.cells]using this
 clear ji jz0 jz1 jz2;obtain⟨FF,hFF⟩:∃FF,eM S=FF:=⟨_,rfl⟩;rw[hFF];unfold eM at hFF;obtain⟨N,hN⟩:∃N,1+nF S.ins (List.replicate S.ins.length false)=N:=⟨_,rfl⟩;rw[hN]at hFF;have c7:N<=400000000000:=by omega
 have b5:=bB hFF hN;clear hFF hN b0;obtain⟨X,hX⟩:∃X:Nat->Prop,X=λg=>g<w.heap.size+1+1:=⟨_,rfl⟩;have a6:∀g,X g↔g<w.heap.size+1+1:=λg=>by rw[hX]
 have HX:=aG a6;clear a6;clear hX;go_enter Tryz.func59,Tryz.ntmps59;go_wp2_with fail
 go_loopg [4] N (λgk td wr=>∃(st:List Int) (fd:List Bool),TodoI X wr td st.reverse/\fd.length=S.ins.length/\nF S.ins fd+st.length<=gk/\fD S gk st fd=FF/\Below w.heap.size w wr/\Blk wr w.heap.size #[.slice ai S.ins.length ci,.slice ao no co,.slice am nm cm] 26/\Blk wr (w.heap.size+1) (fd.map λx=>Value.bool x).toArray 4/\gk<=N)
 case atStart=>
  refine⟨[1],List.replicate S.ins.length false,?_,by simp,?_,b5.out.1,bel _ _,((Blk.new w _ 26).alloc _).alloc _,?_,zC _⟩
  .exact⟨w.heap.size+1+1,0,1,#[.int .i64 1],rfl,λe=>by have:=(HX.out _).1 e;omega,Blk.new_i _ _ _ _,by simp,by simp,λi x hx=>by
    rcases i with _|i
    .simp at hx;subst hx;rfl
    simp at hx⟩
  .have:=b5.out.2;simp only[zK,yW];omega
  have:=(Blk.new_i (w.alloc (.cells #[.slice ai S.ins.length ci,.slice ao no co,.slice am nm cm] 26)) (Array.replicate S.ins.length (.bool false)) 4 (w.heap.size+1)).alloc (.cells #[.int .i64 1] 3);simpa using this
 obtain⟨st,fd,hT,hfl,hpot,hre,hb,hbs,hbf,hgk⟩:=hrel
 rename World=>wq
 have iB:Bel w wq:=⟨hb⟩;have iL:=hbs.lt;have iF:=hbf.lt;obtain⟨-,s0,s1,s2⟩:=lV hbs;obtain⟨g,off,cap,arr,rfl,hng,hbk,hle,har,a3⟩:=hT;rcases st with _|⟨n,st⟩
 .have c8:fd=FF:=by rw[<-hre];rcases gk with _|gk<;>rfl
  subst c8;have HP:=dR hbf hfl hb;clear hbs hbf hre hpot a3;simp only[List.reverse_nil,yW]at *;go_wp2_with fail;go_ret;refine⟨_,rfl,bel _ _,?_⟩;have:=RowAt.of_blk (cap:=S.ins.length) (λx=>Value.bool x) fd HP.out.1 (by unfold maxLen;have:=HP.out.2.1;omega);rw[HP.out.2.1]at this;exact this
 rcases gk with _|gk
 .simp at hpot
 obtain⟨L,hL⟩:∃L,st.length+1=L:=⟨_,rfl⟩;have b6:(n::st).reverse.length=L:=by simp[hL]
 have hn:arr[off+st.length]? =some (.int .i64 n):=a3 st.length n (by simp);have a7:∀(i:Nat) (x:Int),st.reverse[i]? =some x->arr[off+i]? =some (.int .i64 x):=λi x hx=>a3 i x (by
  rw[List.reverse_cons,zZ (by obtain⟨h,_⟩:=gI.1 hx;exact h)];exact hx)
 rw[b6]at hle |-;have cg:wq.cell? ⟨g,off+st.length,none⟩=some (.int .i64 n):=by rw[hbk.cell];exact hn
 have iG:=hbk.lt;have b7:∀wr,Blk wr g arr 3->TodoI X wr (.slice (some ⟨g,off,none⟩) st.length cap) st.reverse:=λwr hbk=>⟨g,off,cap,arr,by simp,hng,hbk,by simp;omega,har,a7⟩;have d4:(L:Int)-1=st.length:=by omega
 have d5:st.length<L:=by omega
 have d6:0<L:=by omega
 have d7:(st.length:Int)<=400000000000:=by simp only[zK]at hpot;omega
 have w1:IntKind.i64.wrap (st.length:Int)=st.length:=I64.wrap ⟨by omega,by omega⟩;have c9:(st.length:Int)<=cap:=by omega
 have b8:st.length<=cap:=by omega
 have a0:=λww hww=>b4 n ww hww;have b1:=fC S n;rw[fD]at hre;have d8:¬cap=0:=by omega
 have HB:=jj6 hbk hbs hbf hfl b7 hng;have b9:nF S.ins fd+st.length<=gk:=by simp only[zK]at hpot;omega
 clear hL a3 a7 hn b6 har hle hbk hbs hbf b7 hng hpot b4;generalize bH S n=K at hre a0 b1;go_upto_region 4 with fail;refine qR ?_
 repeat(go_big_quiet_step ((with_reducible first|refine cI (a0 _ (bel _ _))|refine cJ (a0 _ (bel _ _)))))
 refine QN λp=>?_;by_cases hK:K<0
 .rw[zB hK]at hre;have a2:=aG hre;clear hre b1;go_wp2_with fail
  go_roundg gk
  case rel=>exact⟨st,fd,HB.out.2.2.2.2.1 _ (HB.out.1.junk _),HB.out.2.2.2.1,by omega,a2.out,bel _ _,HB.out.2.1.junk _,HB.out.2.2.1.junk _,by omega⟩
  omega
 rw [zA hK]at hre;obtain⟨k,rfl⟩:∃k:Nat,K=k:=⟨K.toNat,by omega⟩;have hk:k<S.ins.length:=by omega
 obtain⟨x,hx⟩:∃x,S.ins[k]? =some x:=⟨_,gE hk⟩;obtain⟨y,hy⟩:∃y,fd[k]? =some y:=⟨_,gE (by have:=HB.out.2.2.2.1;omega)⟩;have c3:wq.cell? ⟨w.heap.size+1,k,none⟩=some (.bool y):=by rw[HB.out.2.2.1.cell k];simp[hy]
 have f3:wq.frozen? ⟨w.heap.size+1,k,none⟩=false:=HB.out.2.2.1.frozen k;rw[zJ,zG,hy,Option.getD_some,hx]at hre;simp only at hre;have d9:(k:Int)<S.ins.length:=by omega
 clear b1 hK;rcases y with _|_
 .rw [zA (by decide)]at hre;have b2:=uJ S.ins fd k x hx hy;obtain⟨bi,oi,ev,rfl,iI0,hoi,her,hci⟩:=HI.out k x hx;obtain⟨iI,x0,x1,x2,x3⟩:=hci wq hb;have a3:=(c5.out x (mG hx)).2.1;obtain⟨ae,ce,rfl,hae⟩:=her.at_;rw[lM]at hci x2;obtain⟨xn,xd,xe,xs⟩:=x;simp only at x1 x2 hae hci a3 b2;have HC:=bB hae hci;have a2:=bB hre b2;clear her hoi hae hci x0 x1 x2 x3 hx hy hre b2
  go_upto_region 9 with fail;have d0:w.heap.size<=wq.heap.size:=hb.size;have c0:TodoI X (((wq.setCell ⟨w.heap.size+1,k,none⟩ (.bool true)).junk p)) (.slice (some ⟨g,off,none⟩) st.length cap) st.reverse:=HB.out.2.2.2.2.1 _ ((HB.out.1.far (λe=>HB.out.2.2.2.2.2 ((HX.out g).2 (by simp at e;omega))) _).junk _);have e0:BlockGe (w.heap.size+1) w:=⟨by omega⟩;have a4:Blk ((wq.setCell ⟨w.heap.size+1,k,none⟩ (.bool true)).junk p) (w.heap.size+1) ((fd.set k true).map λx=>Value.bool x).toArray 4:=by have:=(HB.out.2.2.1.set_ k (.bool true)).junk p;rw[sA,<-List.map_set (f:=λx=>Value.bool x)]at this;exact this
  have a1:Blk ((wq.setCell ⟨w.heap.size+1,k,none⟩ (.bool true)).junk p) w.heap.size #[.slice (some ⟨bi,oi,none⟩) S.ins.length ci,.slice ao no co,.slice am nm cm] 26:=(HB.out.2.1.far (by show _≠_;simp) _).junk p;have a5:Below w.heap.size w ((wq.setCell ⟨w.heap.size+1,k,none⟩ (.bool true)).junk p):=bel _ _;have H2:=kL c0 a5 a1 a4;clear c0 a4 a1 a5 d0
  go_loopw[4,6] (λv4 i wr=>∃(j:Nat),i=.int .i64 j/\j<=xe.length/\(xd=false->j=0)/\TodoI X wr v4 (st.reverse++(xe.take j).map PEnt.num)/\Below w.heap.size w wr/\Blk wr w.heap.size #[.slice (some ⟨bi,oi,none⟩) S.ins.length ci,.slice ao no co,.slice am nm cm] 26/\Blk wr (w.heap.size+1) ((fd.set k true).map λx=>Value.bool x).toArray 4) (λ_ i _=>(xe.length-intOf i).toNat)
  case atStart=>exact⟨0,rfl,by omega,λ_=>rfl,by simpa using H2.out.1,H2.out.2.1,H2.out.2.2.1,H2.out.2.2.2⟩
  clear s0 s1 s2 iB iL iF iI cg c3 f3 iG;obtain⟨j,rfl,hj,hjd,hT,a5,a1,a4⟩:=hrel;have iB:Bel w wr:=⟨a5⟩;have iL:=a1.lt;have iF:=a4.lt;have s0:=a1.cell 0;simp at s0;obtain⟨iI,x0,x1,x2,x3⟩:=HC.out.2 wr a5;clear x0 x3;obtain⟨g2,off2,cap2,arr2,rfl,-⟩:=id hT;have c1:(st.reverse++(xe.take j).map PEnt.num).length<=1000000000000:=by rw[lP,lM,zU,List.length_reverse];omega
  generalize hxl:(st.reverse++(xe.take j).map PEnt.num).length=xl at hT c1 |-;have a8:∀(wz:World),Bel w wz->(xd=false\/j=xe.length)->TodoI X wz (.slice (some ⟨g2,off2,none⟩) xl cap2) (st.reverse++(xe.take j).map PEnt.num)->Blk wz w.heap.size #[.slice (some ⟨bi,oi,none⟩) S.ins.length ci,.slice ao no co,.slice am nm cm] 26->Blk wz (w.heap.size+1) ((fd.set k true).map λx=>Value.bool x).toArray 4->
   ∃(st':List Int) (fd':List Bool),TodoI X wz (.slice (some ⟨g2,off2,none⟩) xl cap2) st'.reverse/\fd'.length=S.ins.length/\nF S.ins fd'+st'.length<=gk/\fD S gk st' fd'=FF/\Below w.heap.size w wz/\Blk wz w.heap.size #[.slice (some ⟨bi,oi,none⟩) S.ins.length ci,.slice ao no co,.slice am nm cm] 26/\Blk wz (w.heap.size+1) (fd'.map λx=>Value.bool x).toArray 4/\gk<=N:=by
   intro wz i1 hc h1 h2 h3;have c2:(xe.take j).map PEnt.num=jF ⟨xn,xd,xe,xs⟩:=by
    rcases hc with rfl|rfl
    .rw[hjd rfl];rfl
    rcases xd with _|_
    .rw[hjd rfl];rfl
    simp[jF]
   have e2:(jF ⟨xn,xd,xe,xs⟩).length<=xe.length:=by rw[<-c2];simp;omega
   refine⟨(jF ⟨xn,xd,xe,xs⟩).reverse++st,fd.set k true,?_,by rw[yB];exact HB.out.2.2.2.1,?_,a2.out.1,i1.below,h2,h3,by omega⟩
   .have e:((jF ⟨xn,xd,xe,xs⟩).reverse++st).reverse=st.reverse++(xe.take j).map PEnt.num:=by rw[c2];simp
    rw[e];exact h1
   have:=a2.out.2;rw[lP,List.length_reverse];omega
  have HE:=aG a8;have HT:=dR hT a1 a4;have a6:∀(wz:World),Bel w wz->BlockLt (w.heap.size+1) wz->∀g,wz.heap.size<=g->¬X g:=by intro wz i1 i2 g hg hx;have:=(HX.out g).1 hx;have:=i2.lt;omega
  have d1:=aG a6;have d2:=aG hxl;clear a8 hT a1 a4 a6 hxl;rcases xd with _|_
  .obtain rfl:=hjd rfl;by_cases h0:0<xe.length
   .go_wp2_with fail
    go_roundg gk
    case rel=>exact HE.out _ ⟨bel _ _⟩ (by simp) HT.out.1 HT.out.2.1 HT.out.2.2
    omega
   go_wp2_with fail
   go_roundg gk
   case rel=>exact HE.out _ ⟨bel _ _⟩ (by simp) HT.out.1 HT.out.2.1 HT.out.2.2
   omega
  by_cases hlj:j<xe.length
  .obtain⟨z,hz⟩:∃z,xe[j]? =some z:=⟨_,gE hlj⟩
   obtain⟨be,oe,rfl,iE0,iE,hce⟩:=HC.out.1 wr a5 j z.cells (by rw[gM,hz];rfl);have e1:=hce 1 _ rfl;have c4:(xe.take (j+1)).map PEnt.num=(xe.take j).map PEnt.num++[z.num]:=by rw[List.take_add_one,hz];simp
   have HK:=aG c4;clear hce hz c4;have b3:(j:Int)<xe.length:=by omega
   go_wp2_with(at_builtin;refine oC (by kernel_rfl) uQ _ rfl (.tmp 58) (.tmp 69) rfl X _ (st.reverse++(xe.take j).map PEnt.num) rfl (HT.out.1.alloc _) (d1.out _ ⟨bel _ _⟩ inferInstance) _ _ z.num rfl (by go_simp) (by rw[d2.out];exact c1) ?_);intro v' w' hT3 hkp3;have a9:=bB hT3 hkp3;obtain⟨g3,off3,cap3,arr3,rfl,-⟩:=id hT3;clear hT3 hkp3;go_wp2_with fail;go_roundw
   case rel=>
    refine⟨j+1,by rfl,by omega,(λh=>by cases h),?_,(bel w _).trans (a9.out.2.below (bel w _).size (λi hi hn=>hn ((HX.out i).2 (by omega)))),?_,?_⟩
    .rw[HK.out];simpa using a9.out.1
    .exact a9.out.2.blk (HT.out.2.1.alloc _) (λhn=>hn ((HX.out _).2 (by omega)))
    exact a9.out.2.blk (HT.out.2.2.alloc _) (λhn=>hn ((HX.out _).2 (by omega)))
   simp[intOf];omega
  have d3:j=xe.length:=by omega
  have b3:¬(j:Int)<xe.length:=by omega
  go_wp2_with fail
  go_roundg gk
  case rel=>have hz:=HE.out _ ⟨bel _ _⟩ (.inr d3) HT.out.1 HT.out.2.1 HT.out.2.2;first|exact hz|simpa using hz
  omega
 rw[zB rfl]at hre;have a2:=aG hre;clear hre hx hy;go_wp2_with fail
 go_roundg gk
 case rel=>exact⟨st,fd,HB.out.2.2.2.2.1 _ (HB.out.1.junk _),HB.out.2.2.2.1,by omega,a2.out,bel _ _,HB.out.2.1.junk _,HB.out.2.2.1.junk _,by omega⟩
 omega
end
end Go.Proofs.YtmkapobnfigedaaGreatDoor
