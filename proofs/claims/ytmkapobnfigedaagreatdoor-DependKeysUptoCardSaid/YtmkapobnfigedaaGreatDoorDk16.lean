/- A part of a proof of a law. Conditions: none. -/
import Derived.Test.YtmkapobnfigedaaGreatDoorDk14
set_option linter.unusedVariables false
set_option linter.unusedSimpArgs false
set_option maxRecDepth 100000
set_option maxHeartbeats 8000000
namespace Go.Proofs.YtmkapobnfigedaaGreatDoor
open Go.Proofs.Tryz List Go.RowKit
def dN (s:ByteArray) (p:Nat):Int:=if h:p<s.size then((s[p]'h).toNat:Int)else 0
theorem qC {s:ByteArray} {p:Nat} (h:p<s.size):dN s p=((s[p]'h).toNat:Int):=by simp[dN,h]
theorem lL (s:ByteArray) (p:Nat):0<=dN s p/\dN s p<256:=by
 unfold dN;split
 .rename_i h
  have:(s[p]'h).toNat<256:=UInt8.toNat_lt _;omega
 omega
def fN (s:ByteArray) (p:Nat):Int:=if p<s.size then(if dN s p<128 then -1 else if 191<dN s p then -1 else dN s p-128)else -1
theorem aEL (s:ByteArray) (p:Nat) (w:World):
 vR w 166 #[.string s,.int .i64 p] (.int .i64 (fN s p)):=by
 generalize hR:fN s p=R;have HR:=aC hR;clear hR;by_cases hp:p<s.size
 .have a1:¬(s.size:Int)<=p:=by omega
  have hw:=qC hp;have hb:0<=dN s p/\dN s p<256:=lL s p;have a0:(if dN s p<128 then -1 else if 191<dN s p then -1 else dN s p-128)=R:=by rw[<-HR.out];simp[fN,hp]
  clear HR;rw[hw]at a0 hb;clear hw;by_cases h1:((s[p].toNat:Nat):Int)<128
  .rw[zB h1]at a0;subst a0
   unfold vR;go_in;go_wp2;go_ret;exact⟨rfl,bel _ _⟩
  rw[zA h1]at a0;by_cases h2:(191:Int)<((s[p].toNat:Nat):Int)
  .rw[zB h2]at a0;subst a0
   unfold vR;go_in;go_wp2;go_ret;exact⟨rfl,bel _ _⟩
  rw[zA h2]at a0;subst a0;unfold vR;go_in;go_wp2;go_ret;refine⟨rfl,bel _ _⟩
 have a1:(s.size:Int)<=p:=by omega
 have a0:-1=R:=by rw[<-HR.out];simp[fN,hp]
 subst a0;unfold vR;go_in;go_wp2;go_ret;exact⟨rfl,bel _ _⟩
def bQ (c a b d:Int):Int × Int:=
 if c<128 then(c,1)
 else if 194<=c/\c<=223/\0<=a then((c-192)*64+a,2)
 else if 224<=c/\c<=239/\0<=a/\0<=b then
  (if 2048<=(c-224)*4096+a*64+b/\((c-224)*4096+a*64+b<55296\/57343<(c-224)*4096+a*64+b)then((c-224)*4096+a*64+b,3)else(65533,0))
 else if 240<=c/\c<=244/\0<=a/\0<=b/\0<=d then
  (if 65536<=(c-240)*262144+a*4096+b*64+d/\(c-240)*262144+a*4096+b*64+d<=1114111 then((c-240)*262144+a*4096+b*64+d,4)else(65533,0))
 else(65533,0)
def cD (s:ByteArray) (p:Nat):Int × Int:=bQ (dN s p) (fN s (p+1)) (fN s (p+2)) (fN s (p+3))
theorem fH (s:ByteArray) (p:Nat):-1<=fN s p/\fN s p<=63:=by
 have:=lL s p;unfold fN;split
 .split
  .omega
  split<;>omega
 omega
theorem aTX (s:ByteArray) (p:Nat) (hp:p<s.size) (hs:s.size<=1000000000000) (w:World):
 vR w 120 #[.string s,.int .i64 p] (.tuple #[.int .i64 (cD s p).1,.int .i64 (cD s p).2]):=by
 obtain⟨R,hR⟩:∃R,cD s p=R:=⟨_,rfl⟩;rw[hR];unfold cD at hR;rw[qC hp]at hR;have a4:∀ww,vR ww 166 #[.string s,.int .i64 ((p:Int)+1)] (.int .i64 (fN s (p+1))):=λww=>by simpa using aEL s (p+1) ww
 have a5:∀ww,vR ww 166 #[.string s,.int .i64 ((p:Int)+2)] (.int .i64 (fN s (p+2))):=λww=>by simpa using aEL s (p+2) ww
 have a6:∀ww,vR ww 166 #[.string s,.int .i64 ((p:Int)+3)] (.int .i64 (fN s (p+3))):=λww=>by simpa using aEL s (p+3) ww
 have ba:=fH s (p+1);have bb:=fH s (p+2);have bd:=fH s (p+3);generalize fN s (p+1)=a at hR a4 ba;generalize fN s (p+2)=b at hR a5 bb;generalize fN s (p+3)=d at hR a6 bd;have w1:IntKind.i64.wrap ((p:Int)+1)=(p:Int)+1:=I64.wrap ⟨by omega,by omega⟩;have w2:IntKind.i64.wrap ((p:Int)+2)=(p:Int)+2:=I64.wrap ⟨by omega,by omega⟩;have w3:IntKind.i64.wrap ((p:Int)+3)=(p:Int)+3:=I64.wrap ⟨by omega,by omega⟩;have hc:(s[p].toNat:Int)<256:=by have:=UInt8.toNat_lt s[p];omega
 obtain⟨c,ec⟩:∃c:Int,(s[p].toNat:Int)=c:=⟨_,rfl⟩;have a8:0<=c:=by omega
 rw[ec]at hR hc;have HR:=aC hR;clear hR;unfold vR;go_in;go_upto_region 3 with(first|(go_at_call 166;with_reducible refine aE (a4 _) λp=>?_)|(go_at_call 166;with_reducible refine aE (a5 _) λp=>?_)|(go_at_call 166;with_reducible refine aE (a6 _) λp=>?_))
 have a2:c<128\/(128<=c/\c<194)\/(194<=c/\c<224)\/(224<=c/\c<240)\/(240<=c/\c<245)\/245<=c:=by omega
 clear ec a4 a5 a6 w1 w2 w3;rcases a2 with a2|a2|a2|a2|a2|a2
 .have f0:c<128:=by omega
  have f1:¬194<=c:=by omega
  have f2:c<=223:=by omega
  have f3:¬224<=c:=by omega
  have f4:c<=239:=by omega
  have f5:¬240<=c:=by omega
  have f6:c<=244:=by omega
  have a0:(c,(1:Int))=R:=by rw[<-HR.out];unfold bQ;simp(config:={ zeta:=true}) only[*];simp[*]
  subst a0;clear HR;go_wp2
  go_ret2;exact⟨rfl,bel _ _⟩
 .have f0:¬c<128:=by omega
  have f1:¬194<=c:=by omega
  have f2:c<=223:=by omega
  have f3:¬224<=c:=by omega
  have f4:c<=239:=by omega
  have f5:¬240<=c:=by omega
  have f6:c<=244:=by omega
  have a0:(65533,(0:Int))=R:=by rw[<-HR.out];unfold bQ;simp(config:={ zeta:=true}) only[*];simp[*]
  subst a0;clear HR;go_wp2
  go_ret2;exact⟨rfl,bel _ _⟩
 .by_cases ha:0<=a
  .have f0:¬c<128:=by omega
   have f1:194<=c:=by omega
   have f2:c<=223:=by omega
   have f3:¬224<=c:=by omega
   have f4:c<=239:=by omega
   have f5:¬240<=c:=by omega
   have f6:c<=244:=by omega
   have f7:0<=a:=by omega
   have g0:IntKind.i64.wrap (c-192)=c-192:=I64.wrap ⟨by omega,by omega⟩;have g1:IntKind.i64.wrap ((c-192)*64)=(c-192)*64:=I64.wrap ⟨by omega,by omega⟩;have g2:IntKind.i64.wrap ((c-192)*64+a)=(c-192)*64+a:=I64.wrap ⟨by omega,by omega⟩;have a0:((c-192)*64+a,(2:Int))=R:=by rw[<-HR.out];unfold bQ;simp(config:={ zeta:=true}) only[*];simp[*]
   subst a0;clear HR;go_wp2
   go_ret2;exact⟨rfl,bel _ _⟩
  have f0:¬c<128:=by omega
  have f1:194<=c:=by omega
  have f2:c<=223:=by omega
  have f3:¬224<=c:=by omega
  have f4:c<=239:=by omega
  have f5:¬240<=c:=by omega
  have f6:c<=244:=by omega
  have f7:¬0<=a:=by omega
  have a0:(65533,(0:Int))=R:=by rw[<-HR.out];unfold bQ;simp(config:={ zeta:=true}) only[*];simp[*]
  subst a0;clear HR;go_wp2
  go_ret2;exact⟨rfl,bel _ _⟩
 .by_cases ha:0<=a
  .by_cases hb:0<=b
   .have a1:(¬2048<=(c-224)*4096+a*64+b)\/(2048<=(c-224)*4096+a*64+b/\(c-224)*4096+a*64+b<55296)\/(55296<=(c-224)*4096+a*64+b/\(c-224)*4096+a*64+b<=57343)\/57343<(c-224)*4096+a*64+b:=by omega
    rcases a1 with a1|a1|a1|a1
    .have f0:¬c<128:=by omega
     have f1:194<=c:=by omega
     have f2:¬c<=223:=by omega
     have f3:224<=c:=by omega
     have f4:c<=239:=by omega
     have f5:¬240<=c:=by omega
     have f6:c<=244:=by omega
     have f7:0<=a:=by omega
     have f8:0<=b:=by omega
     have f9:¬2048<=(c-224)*4096+a*64+b:=by omega
     have g0:IntKind.i64.wrap (c-224)=c-224:=I64.wrap ⟨by omega,by omega⟩;have g1:IntKind.i64.wrap ((c-224)*4096)=(c-224)*4096:=I64.wrap ⟨by omega,by omega⟩;have g2:IntKind.i64.wrap (a*64)=a*64:=I64.wrap ⟨by omega,by omega⟩;have g3:IntKind.i64.wrap ((c-224)*4096+a*64)=(c-224)*4096+a*64:=I64.wrap ⟨by omega,by omega⟩;have g4:IntKind.i64.wrap ((c-224)*4096+a*64+b)=(c-224)*4096+a*64+b:=I64.wrap ⟨by omega,by omega⟩;have a0:(65533,(0:Int))=R:=by rw[<-HR.out];unfold bQ;simp(config:={ zeta:=true}) only[*];simp[*]
     subst a0;clear HR;go_wp2
     go_ret2;exact⟨rfl,bel _ _⟩
    .have f0:¬c<128:=by omega
     have f1:194<=c:=by omega
     have f2:¬c<=223:=by omega
     have f3:224<=c:=by omega
     have f4:c<=239:=by omega
     have f5:¬240<=c:=by omega
     have f6:c<=244:=by omega
     have f7:0<=a:=by omega
     have f8:0<=b:=by omega
     have f9:2048<=(c-224)*4096+a*64+b:=by omega
     have a3:(c-224)*4096+a*64+b<55296:=by omega
     have g0:IntKind.i64.wrap (c-224)=c-224:=I64.wrap ⟨by omega,by omega⟩;have g1:IntKind.i64.wrap ((c-224)*4096)=(c-224)*4096:=I64.wrap ⟨by omega,by omega⟩;have g2:IntKind.i64.wrap (a*64)=a*64:=I64.wrap ⟨by omega,by omega⟩;have g3:IntKind.i64.wrap ((c-224)*4096+a*64)=(c-224)*4096+a*64:=I64.wrap ⟨by omega,by omega⟩;have g4:IntKind.i64.wrap ((c-224)*4096+a*64+b)=(c-224)*4096+a*64+b:=I64.wrap ⟨by omega,by omega⟩;have a0:((c-224)*4096+a*64+b,(3:Int))=R:=by rw[<-HR.out];unfold bQ;simp(config:={ zeta:=true}) only[*];simp[*]
     subst a0;clear HR;go_wp2
     go_ret2;exact⟨rfl,bel _ _⟩
    .have f0:¬c<128:=by omega
     have f1:194<=c:=by omega
     have f2:¬c<=223:=by omega
     have f3:224<=c:=by omega
     have f4:c<=239:=by omega
     have f5:¬240<=c:=by omega
     have f6:c<=244:=by omega
     have f7:0<=a:=by omega
     have f8:0<=b:=by omega
     have f9:2048<=(c-224)*4096+a*64+b:=by omega
     have a3:¬(c-224)*4096+a*64+b<55296:=by omega
     have a7:¬57343<(c-224)*4096+a*64+b:=by omega
     have g0:IntKind.i64.wrap (c-224)=c-224:=I64.wrap ⟨by omega,by omega⟩;have g1:IntKind.i64.wrap ((c-224)*4096)=(c-224)*4096:=I64.wrap ⟨by omega,by omega⟩;have g2:IntKind.i64.wrap (a*64)=a*64:=I64.wrap ⟨by omega,by omega⟩;have g3:IntKind.i64.wrap ((c-224)*4096+a*64)=(c-224)*4096+a*64:=I64.wrap ⟨by omega,by omega⟩;have g4:IntKind.i64.wrap ((c-224)*4096+a*64+b)=(c-224)*4096+a*64+b:=I64.wrap ⟨by omega,by omega⟩;have a0:(65533,(0:Int))=R:=by rw[<-HR.out];unfold bQ;simp(config:={ zeta:=true}) only[*];simp[*]
     subst a0;clear HR;go_wp2
     go_ret2;exact⟨rfl,bel _ _⟩
    have f0:¬c<128:=by omega
    have f1:194<=c:=by omega
    have f2:¬c<=223:=by omega
    have f3:224<=c:=by omega
    have f4:c<=239:=by omega
    have f5:¬240<=c:=by omega
    have f6:c<=244:=by omega
    have f7:0<=a:=by omega
    have f8:0<=b:=by omega
    have f9:2048<=(c-224)*4096+a*64+b:=by omega
    have a3:¬(c-224)*4096+a*64+b<55296:=by omega
    have a7:57343<(c-224)*4096+a*64+b:=by omega
    have g0:IntKind.i64.wrap (c-224)=c-224:=I64.wrap ⟨by omega,by omega⟩;have g1:IntKind.i64.wrap ((c-224)*4096)=(c-224)*4096:=I64.wrap ⟨by omega,by omega⟩;have g2:IntKind.i64.wrap (a*64)=a*64:=I64.wrap ⟨by omega,by omega⟩;have g3:IntKind.i64.wrap ((c-224)*4096+a*64)=(c-224)*4096+a*64:=I64.wrap ⟨by omega,by omega⟩;have g4:IntKind.i64.wrap ((c-224)*4096+a*64+b)=(c-224)*4096+a*64+b:=I64.wrap ⟨by omega,by omega⟩;have a0:((c-224)*4096+a*64+b,(3:Int))=R:=by rw[<-HR.out];unfold bQ;simp(config:={ zeta:=true}) only[*];simp[*]
    subst a0;clear HR;go_wp2
    go_ret2;exact⟨rfl,bel _ _⟩
   have f0:¬c<128:=by omega
   have f1:194<=c:=by omega
   have f2:¬c<=223:=by omega
   have f3:224<=c:=by omega
   have f4:c<=239:=by omega
   have f5:¬240<=c:=by omega
   have f6:c<=244:=by omega
   have f7:0<=a:=by omega
   have f8:¬0<=b:=by omega
   have a0:(65533,(0:Int))=R:=by rw[<-HR.out];unfold bQ;simp(config:={ zeta:=true}) only[*];simp[*]
   subst a0;clear HR;go_wp2
   go_ret2;exact⟨rfl,bel _ _⟩
  have f0:¬c<128:=by omega
  have f1:194<=c:=by omega
  have f2:¬c<=223:=by omega
  have f3:224<=c:=by omega
  have f4:c<=239:=by omega
  have f5:¬240<=c:=by omega
  have f6:c<=244:=by omega
  have f7:¬0<=a:=by omega
  have a0:(65533,(0:Int))=R:=by rw[<-HR.out];unfold bQ;simp(config:={ zeta:=true}) only[*];simp[*]
  subst a0;clear HR;go_wp2
  go_ret2;exact⟨rfl,bel _ _⟩
 .by_cases ha:0<=a
  .by_cases hb:0<=b
   .by_cases hd:0<=d
    .have a1:(¬65536<=(c-240)*262144+a*4096+b*64+d)\/(65536<=(c-240)*262144+a*4096+b*64+d/\(c-240)*262144+a*4096+b*64+d<=1114111)\/(65536<=(c-240)*262144+a*4096+b*64+d/\¬(c-240)*262144+a*4096+b*64+d<=1114111):=by omega
     rcases a1 with a1|a1|a1
     .have f0:¬c<128:=by omega
      have f1:194<=c:=by omega
      have f2:¬c<=223:=by omega
      have f3:224<=c:=by omega
      have f4:¬c<=239:=by omega
      have f5:240<=c:=by omega
      have f6:c<=244:=by omega
      have f7:0<=a:=by omega
      have f8:0<=b:=by omega
      have f9:0<=d:=by omega
      have a3:¬65536<=(c-240)*262144+a*4096+b*64+d:=by omega
      have g0:IntKind.i64.wrap (c-240)=c-240:=I64.wrap ⟨by omega,by omega⟩;have g1:IntKind.i64.wrap ((c-240)*262144)=(c-240)*262144:=I64.wrap ⟨by omega,by omega⟩;have g2:IntKind.i64.wrap (a*4096)=a*4096:=I64.wrap ⟨by omega,by omega⟩;have g3:IntKind.i64.wrap (b*64)=b*64:=I64.wrap ⟨by omega,by omega⟩;have g4:IntKind.i64.wrap ((c-240)*262144+a*4096)=(c-240)*262144+a*4096:=I64.wrap ⟨by omega,by omega⟩;have g5:IntKind.i64.wrap ((c-240)*262144+a*4096+b*64)=(c-240)*262144+a*4096+b*64:=I64.wrap ⟨by omega,by omega⟩;have g6:IntKind.i64.wrap ((c-240)*262144+a*4096+b*64+d)=(c-240)*262144+a*4096+b*64+d:=I64.wrap ⟨by omega,by omega⟩;have a0:(65533,(0:Int))=R:=by rw[<-HR.out];unfold bQ;simp(config:={ zeta:=true}) only[*];simp[*]
      subst a0;clear HR;go_wp2
      go_ret2;exact⟨rfl,bel _ _⟩
     .have f0:¬c<128:=by omega
      have f1:194<=c:=by omega
      have f2:¬c<=223:=by omega
      have f3:224<=c:=by omega
      have f4:¬c<=239:=by omega
      have f5:240<=c:=by omega
      have f6:c<=244:=by omega
      have f7:0<=a:=by omega
      have f8:0<=b:=by omega
      have f9:0<=d:=by omega
      have a3:65536<=(c-240)*262144+a*4096+b*64+d:=by omega
      have a7:(c-240)*262144+a*4096+b*64+d<=1114111:=by omega
      have g0:IntKind.i64.wrap (c-240)=c-240:=I64.wrap ⟨by omega,by omega⟩;have g1:IntKind.i64.wrap ((c-240)*262144)=(c-240)*262144:=I64.wrap ⟨by omega,by omega⟩;have g2:IntKind.i64.wrap (a*4096)=a*4096:=I64.wrap ⟨by omega,by omega⟩;have g3:IntKind.i64.wrap (b*64)=b*64:=I64.wrap ⟨by omega,by omega⟩;have g4:IntKind.i64.wrap ((c-240)*262144+a*4096)=(c-240)*262144+a*4096:=I64.wrap ⟨by omega,by omega⟩;have g5:IntKind.i64.wrap ((c-240)*262144+a*4096+b*64)=(c-240)*262144+a*4096+b*64:=I64.wrap ⟨by omega,by omega⟩;have g6:IntKind.i64.wrap ((c-240)*262144+a*4096+b*64+d)=(c-240)*262144+a*4096+b*64+d:=I64.wrap ⟨by omega,by omega⟩;have a0:((c-240)*262144+a*4096+b*64+d,(4:Int))=R:=by rw[<-HR.out];unfold bQ;simp(config:={ zeta:=true}) only[*];simp[*]
      subst a0;clear HR;go_wp2
      go_ret2;exact⟨rfl,bel _ _⟩
     have f0:¬c<128:=by omega
     have f1:194<=c:=by omega
     have f2:¬c<=223:=by omega
     have f3:224<=c:=by omega
     have f4:¬c<=239:=by omega
     have f5:240<=c:=by omega
     have f6:c<=244:=by omega
     have f7:0<=a:=by omega
     have f8:0<=b:=by omega
     have f9:0<=d:=by omega
     have a3:65536<=(c-240)*262144+a*4096+b*64+d:=by omega
     have a7:¬(c-240)*262144+a*4096+b*64+d<=1114111:=by omega
     have g0:IntKind.i64.wrap (c-240)=c-240:=I64.wrap ⟨by omega,by omega⟩;have g1:IntKind.i64.wrap ((c-240)*262144)=(c-240)*262144:=I64.wrap ⟨by omega,by omega⟩;have g2:IntKind.i64.wrap (a*4096)=a*4096:=I64.wrap ⟨by omega,by omega⟩;have g3:IntKind.i64.wrap (b*64)=b*64:=I64.wrap ⟨by omega,by omega⟩;have g4:IntKind.i64.wrap ((c-240)*262144+a*4096)=(c-240)*262144+a*4096:=I64.wrap ⟨by omega,by omega⟩;have g5:IntKind.i64.wrap ((c-240)*262144+a*4096+b*64)=(c-240)*262144+a*4096+b*64:=I64.wrap ⟨by omega,by omega⟩;have g6:IntKind.i64.wrap ((c-240)*262144+a*4096+b*64+d)=(c-240)*262144+a*4096+b*64+d:=I64.wrap ⟨by omega,by omega⟩;have a0:(65533,(0:Int))=R:=by rw[<-HR.out];unfold bQ;simp(config:={ zeta:=true}) only[*];simp[*]
     subst a0;clear HR;go_wp2
     go_ret2;exact⟨rfl,bel _ _⟩
    have f0:¬c<128:=by omega
    have f1:194<=c:=by omega
    have f2:¬c<=223:=by omega
    have f3:224<=c:=by omega
    have f4:¬c<=239:=by omega
    have f5:240<=c:=by omega
    have f6:c<=244:=by omega
    have f7:0<=a:=by omega
    have f8:0<=b:=by omega
    have f9:¬0<=d:=by omega
    have a0:(65533,(0:Int))=R:=by rw[<-HR.out];unfold bQ;simp(config:={ zeta:=true}) only[*];simp[*]
    subst a0;clear HR;go_wp2
    go_ret2;exact⟨rfl,bel _ _⟩
   have f0:¬c<128:=by omega
   have f1:194<=c:=by omega
   have f2:¬c<=223:=by omega
   have f3:224<=c:=by omega
   have f4:¬c<=239:=by omega
   have f5:240<=c:=by omega
   have f6:c<=244:=by omega
   have f7:0<=a:=by omega
   have f8:¬0<=b:=by omega
   have a0:(65533,(0:Int))=R:=by rw[<-HR.out];unfold bQ;simp(config:={ zeta:=true}) only[*];simp[*]
   subst a0;clear HR;go_wp2
   go_ret2;exact⟨rfl,bel _ _⟩
  have f0:¬c<128:=by omega
  have f1:194<=c:=by omega
  have f2:¬c<=223:=by omega
  have f3:224<=c:=by omega
  have f4:¬c<=239:=by omega
  have f5:240<=c:=by omega
  have f6:c<=244:=by omega
  have f7:¬0<=a:=by omega
  have a0:(65533,(0:Int))=R:=by rw[<-HR.out];unfold bQ;simp(config:={ zeta:=true}) only[*];simp[*]
  subst a0;clear HR;go_wp2
  go_ret2;exact⟨rfl,bel _ _⟩
 have f0:¬c<128:=by omega
 have f1:194<=c:=by omega
 have f2:¬c<=223:=by omega
 have f3:224<=c:=by omega
 have f4:¬c<=239:=by omega
 have f5:240<=c:=by omega
 have f6:¬c<=244:=by omega
 have a0:(65533,(0:Int))=R:=by rw[<-HR.out];unfold bQ;simp(config:={ zeta:=true}) only[*];simp[*]
 subst a0;clear HR;go_wp2
 go_ret2;exact⟨rfl,bel _ _⟩
theorem lN (s:ByteArray) (p:Nat):0<=(cD s p).1/\(cD s p).1<=1114111/\0<=(cD s p).2/\(cD s p).2<=4:=by
 have h0:=lL s p;have h1:=fH s (p+1);have h2:=fH s (p+2);have h3:=fH s (p+3);unfold cD;generalize dN s p=c at *;generalize fN s (p+1)=a at *;generalize fN s (p+2)=b at *;generalize fN s (p+3)=d at *;unfold bQ
 repeat' split
 all_goals(simp only;omega)
def kG (s:ByteArray):Nat->Nat->Int->Int
 |0,_,h=>h
 |b+1,p,h=>if p<s.size then kG s b (p+(max (cD s p).2 1).toNat) ((31*h+(cD s p).1)%4294967296)else h
def uU (s:ByteArray):Int:=kG s s.size 0 7
theorem aJU (s:ByteArray) (b p:Nat) (h:Int) (hp:¬p<s.size):kG s b p h=h:=by
 cases b with
 |zero=>rfl
 |succ b=>simp[kG,hp]
theorem aCV (s:ByteArray):∀b p h,0<=h/\h<4294967296->0<=kG s b p h/\kG s b p h<4294967296
 |0,_,h,hh=>hh
 | b+1,p,h,hh=>by
   unfold kG;split
   .have:=lN s p;exact aCV s b _ _ (by omega)
   exact hh
theorem aYZ (s:ByteArray) (hs:s.size<=1000000000) (w:World):
 vR w 119 #[.string s] (.int .i64 (uU s)):=by
 obtain⟨R,hR⟩:∃R,uU s=R:=⟨_,rfl⟩;rw[hR];unfold uU at hR;have HR:=aC hR;clear hR;unfold vR;go_in;go_wp2
 go_loopw[3,4] (λvh vi wr=>∃(p b:Nat) (acc:Int),vi=.int .i64 p/\vh=.int .i64 acc/\0<=acc/\acc<4294967296/\kG s b p acc=R/\s.size<=p+b/\p<=s.size+4/\Bl w wr) (λ_ vi _=>(s.size+4-intOf vi).toNat)
 case atStart=>exact⟨0,s.size,7,rfl,rfl,by omega,by omega,HR.out,by omega,by omega,bel _ _⟩
 obtain⟨p,b,acc,rfl,rfl,ha0,ha1,hre,hbp,hp4,hb⟩:=hrel;have iB:Bel w wr:=⟨hb⟩;by_cases hp:p<s.size
 .have a2:(p:Int)<s.size:=by omega
  obtain⟨b',rfl⟩:∃b',b=b'+1:=⟨b-1,by omega⟩;have a0:=λww=>aTX s p hp (by omega) ww;have a1:=lN s p;rw[kG,zB hp]at hre;generalize hrk:cD s p=rk at hre a0 a1;clear hrk;obtain⟨r,k⟩:=rk;simp only at a1 hre a0;obtain⟨m,hm⟩:∃m:Nat,max k 1=m:=⟨(max k 1).toNat,by omega⟩;have a4:1<=m/\m<=4:=by omega
  rw[hm,zJ]at hre;have w1:IntKind.i64.wrap (31*acc)=31*acc:=I64.wrap ⟨by omega,by omega⟩;have w2:IntKind.i64.wrap (31*acc+r)=31*acc+r:=I64.wrap ⟨by omega,by omega⟩;have w3:IntKind.i64.wrap ((p:Int)+m)=p+m:=I64.wrap ⟨by omega,by omega⟩;have w4:IntKind.i64.wrap ((31*acc+r)%4294967296)=(31*acc+r)%4294967296:=I64.wrap ⟨by omega,by omega⟩;have w5:(31*acc+r).tmod 4294967296=(31*acc+r)%4294967296:=Int.tmod_eq_emod_of_nonneg (by omega);have a3:=aC hre;clear hre;go_wp2_with(go_at_call 120;refine aE (a0 _) λpj=>?_);go_roundw
  case rel=>exact⟨p+m,b',_,by rfl,rfl,by omega,by omega,a3.out,by omega,by omega,bel _ _⟩
  simp[intOf];omega
 rw[aJU s b p acc hp]at hre;subst hre;have a2:¬(p:Int)<s.size:=by omega
 go_wp2;go_ret;exact⟨rfl,bel _ _⟩
def fI (s:ByteArray):Nat->Nat->Bool
 |0,_=>true
 |b+1,p=>if p<s.size then(if (cD s p).2=0\/(cD s p).1=47\/(cD s p).1<32\/(cD s p).1=127 then false else fI s b (p+(cD s p).2.toNat))else true
def bI (s:ByteArray):Int:=if 12<s.size then 801 else if(s.toList.isEmpty||s.toList==[46]||s.toList==[46,46])=true then 800 else if fI s s.size 0=true then 0 else 800
theorem aGQ (s:ByteArray) (b p:Nat) (hp:¬p<s.size):fI s b p=true:=by
 cases b with
 |zero=>rfl
 |succ b=>simp[fI,hp]
theorem aLV (s:ByteArray) (w:World):
 vR w 90 #[.string s] (.int .i64 (bI s)):=by
 by_cases hlen:12<s.size
 .have a0:(12:Int)<s.size:=by omega
  have hM:bI s=801:=by simp[bI,hlen]
  rw[hM];unfold vR;go_in;go_wp2;go_ret;exact⟨rfl,bel _ _⟩
 have a0:¬(12:Int)<s.size:=by omega
 rcases h1:s.toList.isEmpty with _|_;rcases h2:s.toList==[46]with _|_;rcases h3:s.toList==[46,46]with _|_
 .have hM:bI s=if fI s s.size 0=true then 0 else 800:=by simp only[bI,zA hlen,h1,h2,h3];rfl
  rw[hM];obtain⟨V,hV⟩:∃V:Int,(if fI s s.size 0=true then 0 else 800)=V:=⟨_,rfl⟩;rw[hV];obtain⟨T,hT⟩:∃T,fI s s.size 0=T:=⟨_,rfl⟩;rw[hT]at hV;have HT:=bG hT hV;clear hM hT hV;unfold vR;go_in;go_wp2
  go_loopw[3] (λvi wr=>∃(p b:Nat),vi=.int .i64 p/\fI s b p=T/\s.size<=p+b/\p<=s.size+4/\Bl w wr) (λvi _=>(s.size+4-intOf vi).toNat)
  case atStart=>exact⟨0,s.size,rfl,HT.out.1,by omega,by omega,bel _ _⟩
  obtain⟨p,b,rfl,hre,hbp,hp4,hb⟩:=hrel;have iB:Bel w wr:=⟨hb⟩;by_cases hp:p<s.size
  .have a8:(p:Int)<s.size:=by omega
   obtain⟨b',rfl⟩:∃b',b=b'+1:=⟨b-1,by omega⟩;have a5:=λww=>aTX s p hp (by omega) ww;have a7:=lN s p;rw[fI,zB hp]at hre;generalize hrk:cD s p=rk at hre a5 a7;clear hrk;obtain⟨r,k⟩:=rk;simp only at a7 hre a5;by_cases hbad:k=0\/r=47\/r<32\/r=127
   .rw[zB hbad]at hre;subst hre;obtain rfl:V=800:=by have:=HT.out.2;simpa using this.symm
    have a6:k=0\/((k==0)=false/\(r==47)=true)\/((k==0)=false/\(r==47)=false/\r<32)\/((k==0)=false/\(r==47)=false/\¬r<32/\(r==127)=true):=by
     by_cases a1:k=0
     .exact .inl a1
     by_cases a2:r=47
     .exact .inr (.inl ⟨by simpa using a1,by simpa using a2⟩)
     by_cases a3:r<32
     .exact .inr (.inr (.inl ⟨by simpa using a1,by simpa using a2,a3⟩))
     exact .inr (.inr (.inr ⟨by simpa using a1,by simpa using a2,a3,by simp;omega⟩))
    clear hbad HT;rcases a6 with hc|⟨c1,c2⟩|⟨c1,c2,c3⟩|⟨c1,c2,c3,c4⟩
    .have c1:(k==0)=true:=by simpa using hc
     clear hc;go_wp2_with(go_at_call 120;refine aE (a5 _) λpj=>?_);go_ret;exact⟨rfl,bel _ _⟩
    all_goals
     go_wp2_with(go_at_call 120;refine aE (a5 _) λpj=>?_);go_ret;exact⟨rfl,bel _ _⟩
   rw[zA hbad]at hre;have a1:(k==0)=false:=by simp;omega
   have a2:(r==47)=false:=by simp;omega
   have a3:¬r<32:=by omega
   have a4:(r==127)=false:=by simp;omega
   have hk:¬k=0:=by omega
   obtain⟨m,rfl⟩:∃m:Nat,k=m:=⟨k.toNat,by omega⟩;have b0:1<=m/\m<=4:=by omega
   rw[zJ]at hre;have w3:IntKind.i64.wrap ((p:Int)+m)=p+m:=I64.wrap ⟨by omega,by omega⟩;have a9:=aC hre;clear hre hbad hk;go_wp2_with(go_at_call 120;refine aE (a5 _) λpj=>?_);go_roundw
   case rel=>exact⟨p+m,b',by rfl,a9.out,by omega,by omega,bel _ _⟩
   simp[intOf];omega
  rw[aGQ s b p hp]at hre;subst hre;obtain rfl:V=0:=by have:=HT.out.2;simpa using this.symm
  have a8:¬(p:Int)<s.size:=by omega
  go_wp2;go_ret;exact⟨rfl,bel _ _⟩
 all_goals
  have hM:bI s=800:=by simp only[bI,zA hlen];simp[*]
  rw[hM];unfold vR;go_in;go_wp2;go_ret;exact⟨rfl,bel _ _⟩
def kS (x y:ByteArray):Nat->Nat->Bool
 |0,_=>decide (x.size<y.size)
 |n+1,p=>if p<x.size/\p<y.size then(if dN x p=dN y p then kS x y n (p+1)else decide (dN x p<dN y p))else decide (x.size<y.size)
def dX (x y:ByteArray):Bool:=kS x y x.size 0
theorem aGR (x y:ByteArray) (n p:Nat) (hp:¬(p<x.size/\p<y.size)):kS x y n p=decide (x.size<y.size):=by
 cases n with
 |zero=>rfl
 |succ n=>rw[kS,zA hp]
theorem aEM (x y:ByteArray) (hs:x.size<=1000000000000) (w:World):
 vR w 81 #[.string x,.string y] (.bool (dX x y)):=by
 obtain⟨R,hR⟩:∃R,dX x y=R:=⟨_,rfl⟩;rw[hR];unfold dX at hR;have HR:=aC hR;clear hR;unfold vR;go_in;go_wp2
 go_loopw[5] (λvi wr=>∃(q b:Nat),vi=.int .i64 q/\kS x y b q=R/\x.size<=q+b/\q<=x.size/\Bl w wr) (λvi _=>(x.size-intOf vi).toNat)
 case atStart=>exact⟨0,x.size,rfl,HR.out,by omega,by omega,bel _ _⟩
 obtain⟨q,b,rfl,hre,hbp,hp4,hb⟩:=hrel;have iB:Bel w wr:=⟨hb⟩;have a1:(q<x.size/\q<y.size)\/¬(q<x.size)\/(q<x.size/\¬q<y.size):=by omega
 have a0:∀ww,Bel w ww->¬(q<x.size/\q<y.size)->Ending.returned (.bool (decide ((x.size:Int)<y.size)))=Ending.returned (.bool R)/\Bl w ww:=λww hww hn=>by rw[aGR x y b q hn]at hre;rw[<-hre];exact⟨by congr 2;by_cases h:x.size<y.size<;>simp[h]<;>omega,hww.below⟩
 rcases a1 with⟨h1,h2⟩|h1|⟨h1,h2⟩
 .obtain⟨b',rfl⟩:∃b',b=b'+1:=⟨b-1,by omega⟩
  clear a0;rw[kS,zB ⟨h1,h2⟩,qC h1,qC h2]at hre;have a2:(q:Int)<x.size:=by omega
  have a3:(q:Int)<y.size:=by omega
  have w3:IntKind.i64.wrap ((q:Int)+1)=q+1:=I64.wrap ⟨by omega,by omega⟩;by_cases he:(x[q].toNat:Int)=y[q].toNat
  .rw[zB he]at hre;have a4:((x[q].toNat:Int) !=y[q].toNat)=false:=by simpa using he
   have a5:=aC hre;clear hre he;go_wp2;refine qR ?_
   repeat(go_big_quiet_step (fail))
   refine QN λp=>?_;go_wp2;go_roundw
   case rel=>exact⟨q+1,b',by rfl,a5.out,by omega,by omega,bel _ _⟩
   simp[intOf];omega
  rw[zA he]at hre;have a4:((x[q].toNat:Int) !=y[q].toNat)=true:=by simpa using he
  subst hre;go_wp2;refine qR ?_
  repeat(go_big_quiet_step (fail))
  refine QN λp=>?_;go_wp2;refine qR ?_
  repeat(go_big_quiet_step (fail))
  refine QN λp=>?_;go_wp2;exact xD (v:=.bool (decide ((x[q].toNat:Int)<y[q].toNat))) (by simp[results,Tryz.results81,go_sem]) rfl ⟨rfl,bel _ _⟩
 .have a2:¬(q:Int)<x.size:=by omega
  have HE:=aC a0;clear a0 hre;go_wp2;exact xD (v:=.bool (decide ((x.size:Int)<y.size))) (by simp[results,Tryz.results81,go_sem]) rfl (HE.out _ ⟨bel _ _⟩ (by omega))
 have a2:(q:Int)<x.size:=by omega
 have a3:¬(q:Int)<y.size:=by omega
 have HE:=aC a0;clear a0 hre;go_wp2;exact xD (v:=.bool (decide ((x.size:Int)<y.size))) (by simp[results,Tryz.results81,go_sem]) rfl (HE.out _ ⟨bel _ _⟩ (by omega))
def aZ (s:ByteArray):Int:=uU s%8
theorem sK (s:ByteArray) (hs:s.size<=1000000000) (w:World):
 vR w 87 #[.string s] (.int .i64 (aZ s)):=by
 have hb:0<=uU s/\uU s<4294967296:=aCV s s.size 0 7 (by omega);unfold aZ;have h1:=λww=>aYZ s hs ww;generalize uU s=h at *;have w5:h.tmod 8=h%8:=Int.tmod_eq_emod_of_nonneg (by omega);have w6:IntKind.i64.wrap (h%8)=h%8:=I64.wrap ⟨by omega,by omega⟩;unfold vR;go_in;go_wp2_with((go_at_call 119;refine aE (h1 _) λp=>?_));go_ret;exact⟨rfl,bel _ _⟩
def qL (e:Int):Int:=if e=0 then 0 else if e=1101 then 6 else if e=1102 then 6 else 9
theorem aWF (e:Int) (w:World):
 Calls prog 84 #[e] w λx w'=>x=.returned (.int .i64 (qL e))/\Bl w w':=by
 by_cases h0:e=0
 .subst h0
  go_in;go_wp2;go_ret;exact⟨rfl,bel _ _⟩
 have b0:(e==0)=false:=by simpa using h0
 by_cases h1:e=1101
 .subst h1
  go_in;go_wp2;go_ret;exact⟨rfl,bel _ _⟩
 have b1:(e==1101)=false:=by simpa using h1
 by_cases h2:e=1102
 .subst h2
  go_in;go_wp2;go_ret;exact⟨rfl,bel _ _⟩
 have b2:(e==1102)=false:=by simpa using h2
 have hv:qL e=9:=by simp[qL,h0,h1,h2]
 rw[hv];clear h0 h1 h2 hv;go_in;go_wp2;go_ret;exact⟨rfl,bel _ _⟩
section
def bM (S:PSt) (n:Int):Int:=cU (mZ n) S.ins
theorem fC (S:PSt) (n:Int):bM S n=-1\/(0<=bM S n/\bM S n<S.ins.length):=kX _ _
theorem aAS (S:PSt) (iv ov mv:Value) (n:Int) (w:World) (h:StRead w iv ov mv S) (hlen:S.ins.length<=1000000000):
 vR w 85 #[.agg #[iv,ov,mv],.int .i64 n] (.int .i64 (bM S n)):=by
 obtain⟨ai,ni,ci,ao,no,co,am,nm,cm,rfl,rfl,rfl⟩:=h.slices;obtain⟨a,cap,e1,hat⟩:=h.ins_at;cases e1;have HA:=aC hat;clear hat h;obtain⟨R,hR⟩:∃R,bM S n=R:=⟨_,rfl⟩;rw[hR];unfold bM cU at hR;have HR:=aC hR;clear hR;unfold vR;go_in;go_wp2
 go_loopw[5] (λi wr=>∃(q:Nat),i=.int .i64 q/\q<=S.ins.length/\bO (mZ n) (S.ins.drop q) q=R/\Bl w wr/\Blk wr w.heap.size #[.slice ai S.ins.length ci,.slice ao no co,.slice am nm cm] 26) (λi _=>(S.ins.length-intOf i).toNat)
 case atStart=>exact⟨0,rfl,by omega,HR.out,bel _ _,Blk.new w _ 26⟩
 obtain⟨q,rfl,hq,hre,hb,hblk⟩:=hrel;have iB:Bel w wr:=⟨hb⟩;have iL:=hblk.lt;have s0:=hblk.cell 0;simp at s0;have HB:=aC hblk;clear hblk;by_cases hlt:q<S.ins.length
 .obtain⟨z,hz⟩:∃z,S.ins[q]? =some z:=⟨_,gE hlt⟩
  obtain⟨b,off,ev,rfl,iG0,iG,-,-,c0,-,-,-⟩:=HA.out wr hb q z hz;rw[gL _ S.ins q z hz]at hre;have HZ:=aC hre;clear hz hre;rcases hpz:(z.num==n)with _|_
  .go_wp2
   go_roundw
   case rel=>exact⟨q+1,by go_num,by omega,by have:=HZ.out;simpa[mZ,hpz]using this,bel _ _,by first|exact HB.out|exact HB.out.alloc _|exact HB.out.junk _⟩
   simp[intOf];omega
  have hv:R=q:=by have:=HZ.out;simpa[mZ,hpz]using this.symm
  subst hv;go_wp2;go_ret;exact⟨rfl,bel _ _⟩
 rw[jA _ S.ins q hlt]at hre;subst hre;go_wp2;go_ret;exact⟨rfl,bel _ _⟩
def fdL (c f:Int):List PDesc->Int
 |[]=>0
 |d::r=>if(d.core==c&&d.fd==f)=true then d.num else fdL c f r
def nR (S:PSt) (c f:Int):Int:=fdL c f S.op
theorem aWD (S:PSt) (iv ov mv:Value) (c f:Int) (w:World) (h:StRead w iv ov mv S) (hlen:S.op.length<=1000000000):
 vR w 43 #[.agg #[iv,ov,mv],.int .i64 c,.int .i64 f] (.int .i64 (nR S c f)):=by
 obtain⟨ai,ni,ci,ao,no,co,am,nm,cm,rfl,rfl,rfl⟩:=h.slices;obtain⟨a,cap,e1,hat⟩:=h.1.at_;rw[lM]at e1;cases e1;have HA:=aC hat;clear hat h;obtain⟨R,hR⟩:∃R,nR S c f=R:=⟨_,rfl⟩;rw[hR];unfold nR at hR;have HR:=aC hR;clear hR;unfold vR;go_in;go_wp2
 go_loopw[7] (λi wr=>∃(q:Nat),i=.int .i64 q/\q<=S.op.length/\fdL c f (S.op.drop q)=R/\Bl w wr/\Blk wr w.heap.size #[.slice ai ni ci,.slice ao S.op.length co,.slice am nm cm] 26) (λi _=>(S.op.length-intOf i).toNat)
 case atStart=>exact⟨0,rfl,by omega,HR.out,bel _ _,Blk.new w _ 26⟩
 obtain⟨q,rfl,hq,hre,hb,hblk⟩:=hrel;have iB:Bel w wr:=⟨hb⟩;have iL:=hblk.lt;have s1:=hblk.cell 1;simp at s1;have HB:=aC hblk;clear hblk;by_cases hlt:q<S.op.length
 .obtain⟨z,hz⟩:∃z,S.op[q]? =some z:=⟨_,gE hlt⟩
  obtain⟨b,off,rfl,iG0,iG,hc⟩:=HA.out wr hb q z.cells (by rw[gM,hz];rfl);have c0:=hc 0 _ rfl;have c1:=hc 1 _ rfl;have c2:=hc 2 _ rfl;rw[zN]at c0;rw[cO hz,fdL]at hre;clear hz hc;rcases hpz:(z.core==c)with _|_
  .rw[hpz,yJ,zA (by decide)]at hre;have HZ:=aC hre;clear hre;go_wp2
   go_roundw
   case rel=>exact⟨q+1,by go_num,by omega,HZ.out,bel _ _,HB.out⟩
   simp[intOf];omega
  rcases hpf:(z.fd==f)with _|_
  .rw[hpf,Bool.and_false,zA (by decide)]at hre;have HZ:=aC hre;clear hre;go_wp2
   go_roundw
   case rel=>exact⟨q+1,by go_num,by omega,HZ.out,bel _ _,HB.out⟩
   simp[intOf];omega
  rw[hpz,hpf,zB (by decide)]at hre;subst hre;go_wp2;go_ret;exact⟨rfl,bel _ _⟩
 rw[zS (by omega)]at hre;obtain rfl:R=0:=by rw[<-hre];rfl
 go_wp2;go_ret;exact⟨rfl,bel _ _⟩
def rF (name:ByteArray):List PEnt->Int
 |[]=>0
 |e::r=>if(e.name.toList==name.toList)=true then e.num else rF name r
def aW (S:PSt) (dir:Int) (name:ByteArray):Int:=if bM S dir<0 then 0 else match S.ins[(bM S dir).toNat]? with|some x=>rF name x.ents|none=>0
theorem hY (S:PSt) (iv ov mv:Value) (dir:Int) (name:ByteArray) (w:World) (h:StRead w iv ov mv S) (hwf:S.wf):
 vR w 118 #[.agg #[iv,ov,mv],.int .i64 dir,.string name] (.int .i64 (aW S dir name)):=by
 have hA:vB w 85 #[.agg #[iv,ov,mv],.int .i64 dir] (.int .i64 (bM S dir)):=λww hb=>aAS S iv ov mv dir ww (h.below hb (zC _)) hwf.1;obtain⟨ai,ni,ci,ao,no,co,am,nm,cm,rfl,rfl,rfl⟩:=h.slices;obtain⟨a,cap,e1,hat⟩:=h.ins_at2;cases e1;have a0:=fC S dir;obtain⟨R,hR⟩:∃R,aW S dir name=R:=⟨_,rfl⟩;rw[hR];unfold aW at hR;generalize bM S dir=K at hA a0 hR;by_cases hK:K<0
 .rw[zB hK]at hR;subst hR;clear hat h a0 hwf
  unfold vR;go_in;go_wp2_with((go_at_call 85;refine aE (hA _ (bel _ _)) λp=>?_));go_ret;exact⟨rfl,bel _ _⟩
 rw [zA hK]at hR;obtain⟨k,rfl⟩:∃k:Nat,K=k:=⟨K.toNat,by omega⟩;have hk:k<S.ins.length:=by omega
 obtain⟨x,hx⟩:∃x,S.ins[k]? =some x:=⟨_,gE hk⟩;rw[zJ,hx]at hR;simp only at hR;obtain⟨b,off,ev,rfl,iG0,ho,her,hc⟩:=hat k x hx;obtain⟨ae,ce,rfl,hae⟩:=her.at_;rw[lM]at hc;have a1:=(hwf.2.2.2.1 x (mG hx)).2.1;have HA:=bG hae hc;have HR:=aC hR;clear hat h a0 hwf her hae hc ho hR hx;unfold vR;go_in;go_wp2_with((go_at_call 85;refine aE (hA _ (bel _ _)) λp=>?_))
 go_loopw[8] (λi wr=>∃(q:Nat),i=.int .i64 q/\q<=x.ents.length/\rF name (x.ents.drop q)=R/\Bl w wr/\Blk wr w.heap.size #[.slice (some ⟨b,off,none⟩) S.ins.length ci,.slice ao no co,.slice am nm cm] 26) (λi _=>(x.ents.length-intOf i).toNat)
 case atStart=>exact⟨0,rfl,by omega,HR.out,bel _ _,(Blk.new w _ 26).junk _⟩
 obtain⟨q,rfl,hq,hre,hb,hblk⟩:=hrel;have iB:Bel w wr:=⟨hb⟩;have iL:=hblk.lt;have s0:=hblk.cell 0;simp at s0;obtain⟨iG,c0,c1,c2,c3⟩:=HA.out.2 wr hb;clear c0 c1 c3;have HB:=aC hblk;clear hblk;by_cases hlt:q<x.ents.length
 .obtain⟨z,hz⟩:∃z,x.ents[q]? =some z:=⟨_,gE hlt⟩
  obtain⟨be,oe,rfl,iE0,iE,hce⟩:=HA.out.1 wr hb q z.cells (by rw[gM,hz];rfl);have e0:=hce 0 _ rfl;have e1:=hce 1 _ rfl;rw[zN]at e0;rw[cO hz,rF]at hre;clear hz hce;rcases hpz:(z.name.toList==name.toList)with _|_
  .rw[hpz,zA (by decide)]at hre;have HZ:=aC hre;clear hre;go_wp2
   go_roundw
   case rel=>exact⟨q+1,by go_num,by omega,HZ.out,bel _ _,HB.out⟩
   simp[intOf];omega
  rw[hpz,zB (by decide)]at hre;subst hre;go_wp2;go_ret;exact⟨rfl,bel _ _⟩
 rw[zS (by omega)]at hre;obtain rfl:R=0:=by rw[<-hre];rfl
 go_wp2;go_ret;exact⟨rfl,bel _ _⟩
variable {K n:Int} {S:PSt} {iv mv ov:Value} {w:World}
theorem uX (h:StRead w iv ov mv S) (hf:S.ins.length<=1000000000) (he:bM S n=K):vB w 85 #[.agg #[iv,ov,mv],.int .i64 n] (.int .i64 K):=λww hb=>by have:=aAS S iv ov mv n ww (h.below hb (zC _)) hf;rw[he]at this;exact this
theorem c43 {c f:Int} (h:StRead w iv ov mv S) (hf:S.op.length<=1000000000) (he:nR S c f=K):vB w 43 #[.agg #[iv,ov,mv],.int .i64 c,.int .i64 f] (.int .i64 K):=λww hb=>by have:=aWD S iv ov mv c f ww (h.below hb (zC _)) hf;rw[he]at this;exact this
theorem aYX {d:Int} {n:ByteArray} (h:StRead w iv ov mv S) (hf:S.wf) (he:aW S d n=K):vB w 118 #[.agg #[iv,ov,mv],.int .i64 d,.string n] (.int .i64 K):=λww hb=>by have:=hY S iv ov mv d n ww (h.below hb (zC _)) hf;rw[he]at this;exact this
end
def rG (S:PSt) (n:Int):Bool:=if n<2 then false else match S.made[((n-2)%8).toNat]? with|some m=>decide ((n-2)/8<m)|none=>false
theorem aWE (S:PSt) (iv ov mv:Value) (n:Int) (hn:I64 n) (w:World) (h:StRead w iv ov mv S) (hwf:S.wf):
 vR w 60 #[.agg #[iv,ov,mv],.int .i64 n] (.bool (rG S n)):=by
 obtain⟨ai,ni,ci,ao,no,co,am,nm,cm,rfl,rfl,rfl⟩:=h.slices;obtain⟨a,cap,e1,hat⟩:=h.2.1.at_;rw[lM]at e1;cases e1;have a3:=hwf.2.2.1;obtain⟨R,hR⟩:∃R,rG S n=R:=⟨_,rfl⟩;rw[hR];unfold rG at hR;clear h hwf;by_cases h2:n<2
 .rw[zB h2]at hR;subst hR;clear hat
  unfold vR;go_in;go_wp2;go_ret;exact⟨rfl,bel _ _⟩
 rw[zA h2]at hR;have a4:=hn.2;have w1:IntKind.i64.wrap (n-2)=n-2:=I64.wrap ⟨by omega,by omega⟩;have w2:(n-2).tmod 8=(n-2)%8:=Int.tmod_eq_emod_of_nonneg (by omega);have w3:(n-2).tdiv 8=(n-2)/8:=Int.tdiv_eq_ediv_of_nonneg (by omega);obtain⟨k,hk⟩:∃k:Nat,(n-2)%8=k:=⟨((n-2)%8).toNat,by omega⟩;obtain⟨d,hd⟩:∃d:Int,(n-2)/8=d:=⟨_,rfl⟩;have a1:IntKind.i64.wrap d=d:=I64.wrap ⟨by omega,by omega⟩;have a5:k<8:=by omega
 have a2:IntKind.i64.wrap (k:Int)=k:=I64.wrap ⟨by omega,by omega⟩;rw[hk,hd,zJ]at hR;rw[hk]at w2;rw[hd]at w3;clear hk hd;by_cases hlt:k<S.made.length
 .obtain⟨m,hm⟩:∃m,S.made[k]? =some m:=⟨_,gE hlt⟩
  rw[hm]at hR;simp only at hR;obtain⟨b,off,rfl,iG0,-,hc⟩:=hat w (bel _ _) k (aL m) (by rw[gM,hm];rfl);have c0:=hc 0 _ rfl;rw[Nat.mul_one,zN]at c0;subst hR;clear hc hat hm hn;have a0:(k:Int)<S.made.length:=by omega
  unfold vR;go_in;go_wp2;go_ret;exact⟨rfl,bel _ _⟩
 rw[getElem?_eq_none (by omega)]at hR;simp only at hR;subst hR;clear hat hn;have a0:¬(k:Int)<S.made.length:=by omega
 unfold vR;go_in;go_wp2;go_ret;exact⟨rfl,bel _ _⟩
def vG (n:Int):List PEnt->Int->Int
 |[],a=>a
 |e::r,a=>vG n r (if (e.num==n)=true then a+1 else a)
def lkI (n:Int):List PIn->Int->Int
 |[],a=>a
 |x::r,a=>lkI n r (if x.dir=true then vG n x.ents a else a)
def bX (S:PSt) (n:Int):Int:=lkI n S.ins 0
theorem aEJ (S:PSt) (iv ov mv:Value) (n:Int) (w:World) (h:StRead w iv ov mv S) (hwf:S.wf):
 vR w 62 #[.agg #[iv,ov,mv],.int .i64 n] (.int .i64 (bX S n)):=by
 obtain⟨ai,ni,ci,ao,no,co,am,nm,cm,rfl,rfl,rfl⟩:=h.slices;obtain⟨a,cap,e1,hat⟩:=h.ins_at2;cases e1;have a2:=hwf.1;have a3:=aC hwf;have a4:=aC hat;clear hat h hwf;obtain⟨R,hR⟩:∃R,bX S n=R:=⟨_,rfl⟩;rw[hR];unfold bX at hR;have HR:=aC hR;clear hR;unfold vR;go_in;go_wp2
 go_loopw[5,6] (λv i wr=>∃(q:Nat) (m:Int),i=.int .i64 q/\v=.int .i64 m/\0<=m/\m<=1000000000*q/\q<=S.ins.length/\lkI n (S.ins.drop q) m=R/\Bl w wr/\Blk wr w.heap.size #[.slice ai S.ins.length ci,.slice ao no co,.slice am nm cm] 26) (λ_ i _=>(S.ins.length-intOf i).toNat)
 case atStart=>exact⟨0,0,rfl,rfl,by omega,by omega,by omega,HR.out,bel _ _,Blk.new w _ 26⟩
 obtain⟨q,m,rfl,rfl,hm0,hm1,hq,hre,hb,hblk⟩:=hrel;have iB:Bel w wr:=⟨hb⟩;have iL:=hblk.lt;have s0:=hblk.cell 0;simp at s0;by_cases hlt:q<S.ins.length
 .obtain ⟨x,hx⟩:∃x,S.ins[q]? =some x:=⟨_,gE hlt⟩
  obtain⟨b,off,ev,rfl,iG0,ho,her,hc⟩:=a4.out q x hx;obtain⟨ae,ce,rfl,hae⟩:=her.at_;rw[lM]at hc;have a5:=(a3.out.2.2.2.1 x (mG hx)).2.1;have HA:=bG hae hc;obtain⟨iG,c0,c1,c2,c3⟩:=hc wr hb;have HB:=aC hblk;rw[cO hx,lkI]at hre;clear her hae hc ho hblk c0 c3 c1 c2 hx;obtain⟨xn,xd,xe,xs⟩:=x;simp only at hre HA a5;rcases xd with _|_
  .rw [zA (by decide)]at hre;obtain⟨_,_,c1,c2,_⟩:=HA.out.2 wr hb;have a0:=aC hre;clear hre;by_cases h0:0<xe.length
   .have a6:(0:Int)<xe.length:=by omega
    go_wp2
    go_loopw[5,7] (λv i wr'=>v=.int .i64 m/\i=.int .i64 0/\wr'=wr) (λ_ i _=>0)
    case atStart=>exact⟨rfl,rfl,rfl⟩
    obtain⟨rfl,rfl,rfl⟩:=hrel;go_wp2;go_roundw
    case rel=>exact⟨q+1,m,by rfl,rfl,hm0,by omega,by omega,a0.out,bel _ _,HB.out⟩
    simp[intOf];omega
   have a6:¬(0:Int)<xe.length:=by omega
   go_wp2
   go_loopw[5,7] (λv i wr'=>v=.int .i64 m/\i=.int .i64 0/\wr'=wr) (λ_ i _=>0)
   case atStart=>exact⟨rfl,rfl,rfl⟩
   obtain⟨rfl,rfl,rfl⟩:=hrel;go_wp2;go_roundw
   case rel=>exact⟨q+1,m,by rfl,rfl,hm0,by omega,by omega,a0.out,bel _ _,HB.out⟩
   simp[intOf];omega
  rw [zB rfl]at hre;have a0:=aC hre;clear hre;go_wp2
  go_loopw[5,7] (λv i wr'=>∃(j:Nat) (m':Int),i=.int .i64 j/\v=.int .i64 m'/\0<=m'/\m'<=1000000000*q+j/\j<=xe.length/\lkI n (S.ins.drop (q+1)) (vG n (xe.drop j) m')=R/\Bl w wr'/\Blk wr' w.heap.size #[.slice (some ⟨b,off,none⟩) S.ins.length ci,.slice ao no co,.slice am nm cm] 26) (λ_ i _=>(xe.length-intOf i).toNat)
  case atStart=>exact⟨0,m,rfl,rfl,by omega,by omega,by omega,a0.out,bel _ _,HB.out⟩
  clear a0 HB iB iL s0 hb iG;obtain⟨j,m',rfl,rfl,hm2,hm3,hj,hre,hb,hblk⟩:=hrel;have iB:Bel w wr:=⟨hb⟩;have iL:=hblk.lt;have s0:=hblk.cell 0;simp at s0;obtain⟨iG,c0,c1,c2,c3⟩:=HA.out.2 wr hb;have HB:=aC hblk;clear hblk c0 c3;by_cases hlj:j<xe.length
  .obtain⟨z,hz⟩:∃z,xe[j]? =some z:=⟨_,gE hlj⟩
   obtain⟨be,oe,rfl,iE0,iE,hce⟩:=HA.out.1 wr hb j z.cells (by rw[gM,hz];rfl);have e1:=hce 1 _ rfl;rw[cO hz,vG]at hre;clear hz hce;have a1:(j:Int)<xe.length:=by omega
   have w1:IntKind.i64.wrap (m'+1)=m'+1:=I64.wrap ⟨by omega,by omega⟩;rcases hpz:(z.num==n)with _|_
   .rw[hpz,zA (by decide)]at hre;have HZ:=aC hre;clear hre;go_wp2
    go_roundw
    case rel=>exact⟨j+1,m',by rfl,rfl,by omega,by omega,by omega,HZ.out,bel _ _,HB.out⟩
    simp[intOf];omega
   rw[hpz,zB (by decide)]at hre;have HZ:=aC hre;clear hre;go_wp2;go_roundw
   case rel=>exact⟨j+1,m'+1,by rfl,rfl,by omega,by omega,by omega,HZ.out,bel _ _,HB.out⟩
   simp[intOf];omega
  rw[show xe.drop j=[]from zS (by omega),vG]at hre;have a1:¬(j:Int)<xe.length:=by omega
  have HZ:=aC hre;clear hre;go_wp2;go_roundw
  case rel=>exact⟨q+1,m',by rfl,rfl,hm2,by omega,by omega,HZ.out,bel _ _,HB.out⟩
  simp[intOf];omega
 rw[zS (by omega),lkI]at hre;subst hre;go_wp2;go_ret;exact⟨rfl,bel _ _⟩
theorem Blk.apart {w:World} {b b' o:Nat} {c:Array Value} {t:TypeId} {v:Value} (h:Blk w b c t) (hne:b≠b'):Blk (w.setCell ⟨b',o,none⟩ v) b c t:=by unfold Blk;rw[Below.heap_setCell _ _ _ _ (by show b≠b';exact hne)];exact h
theorem xQ (s:ByteArray):0<=aZ s/\aZ s<8:=by unfold aZ;omega
def kE (prev:Option ByteArray) (s:ByteArray):Bool:=match prev with|some p=>!dX p s|none=>false
def gU (S:PSt):Option ByteArray->List Int->List PEnt->Bool
 |_,_,[]=>true
 | prev,sl,e::r=>
   if(bI e.name !=0)=true then false else if kE prev e.name=true then false else if e.num=1 then false else if bM S e.num<0 then false else
   match sl[(aZ e.name).toNat]? with
   |some x=>if 4<x+1 then false else gU S (some e.name) (sl.set (aZ e.name).toNat (x+1)) r
   |none=>false
def xR (S:PSt) (es:List PEnt):Bool:=gU S none [0,0,0,0,0,0,0,0] es
theorem aEK (s:ByteArray) (h:(bI s !=0)=false):s.size<=12:=by
 unfold bI at h;by_cases hl:12<s.size
 .rw[zB hl]at h;simp at h
 omega
theorem mk8 (u:World):(Instr.makeSlice 24 (.int .i64 8) (.int .i64 8)).run prog u=.ok (.slice u.heap.size 8 8) (u.alloc (.cells (([0,0,0,0,0,0,0,0]:List Int).map λx=>Value.int .i64 x).toArray 3)):=by obtain⟨i0,hi,hz0,hz1,hz2⟩:=info_parts aAB;have:=run_makeSlice (P:=prog) u 24 3 i0 _ underlying24 hi hz0 .i64 .i64 8 8 (by omega) (Int.le_refl _) (by rw[hz1];omega) (by rw[hz2];omega) (by omega);have e:(([0,0,0,0,0,0,0,0]:List Int).map λx=>Value.int .i64 x)=(List.replicate 8 (0:Int)).map λx=>Value.int .i64 x:=rfl;rw[e,<-aCS (λx=>Value.int .i64 x)];simpa[hz1,Value.cells]using this
theorem aPE (S:PSt) (iv ov mv:Value) (xn:Int) (xd:Bool) (xs:ByteArray) (ev:Value) (es:List PEnt) (w:World) (h:StRead w iv ov mv S) (hwf:S.wf) (he:RowAt w 2 ev (es.map PEnt.cells)) (hlen:es.length<=1000000000):
 vR w 61 #[.agg #[iv,ov,mv],.agg #[xn,xd,ev,xs]] (.bool (xR S es)):=by
 have a3:∀n ww,Bl w ww->vR ww 85 #[.agg #[iv,ov,mv],.int .i64 n] (.int .i64 (bM S n)):=λn ww hb=>aAS S iv ov mv n ww (h.below hb (zC _)) hwf.1;obtain⟨ai,ni,ci,ao,no,co,am,nm,cm,rfl,rfl,rfl⟩:=h.slices;obtain⟨a,cap,rfl,hat⟩:=he.at_;have HA:=aC hat;clear h hwf he hat;rw[lM];have b9:=mk8;unfold xR;obtain⟨R,hR⟩:∃R,gU S none [0,0,0,0,0,0,0,0] es=R:=⟨_,rfl⟩;rw[hR];have HR:=aC hR;clear hR;unfold vR;go_in;go_wp2
 go_loopw[6] (λi wr=>∃(q:Nat) (sl:List Int),i=.int .i64 q/\q<=es.length/\sl.length=8/\(∀(k:Nat) (x:Int),sl[k]? =some x->0<=x/\x<=4)/\(∀p,dV es q=some p->p.size<=12)/\gU S (dV es q) sl (es.drop q)=R/\Bl w wr/\Blk wr (w.heap.size+1+1) (sl.map λx=>.int .i64 x).toArray 3/\Blk wr w.heap.size #[.slice ai ni ci,.slice ao no co,.slice am nm cm] 26/\Blk wr (w.heap.size+1) #[xn,xd,.slice a es.length cap,xs] 68) (λi _=>(es.length-intOf i).toNat)
 case atStart=>
  refine⟨0,[0,0,0,0,0,0,0,0],rfl,by omega,rfl,?_,λp hp=>by simp[dV]at hp,HR.out,bel _ _,?_,?_,?_⟩
  .intro k x hk;have:=mG hk;simp at this;omega
  .exact Blk.new_i _ _ _ _
  .exact((Blk.new w _ 26).alloc _).alloc _
  exact(Blk.new_i _ _ _ _:Blk ((w.alloc _).alloc _) (w.heap.size+1) _ _).alloc _
 obtain⟨q,sl,rfl,hq,hsl,hsb,hpz,hre,hb,hblk,hbs,hbx⟩:=hrel;have iB:Bel w wr:=⟨hb⟩;have iL:=hblk.lt;have c4:=hbs.lt;have c5:=hbx.lt;have s0:=hbs.cell 0;have s1:=hbs.cell 1;have s2:=hbs.cell 2;have x2:=hbx.cell 2;simp at s0 s1 s2 x2;have HB:=eK hblk hbs hbx;clear hblk hbs hbx;by_cases hlt:q<es.length
 .obtain ⟨z,hz⟩:∃z,es[q]? =some z:=⟨_,gE hlt⟩
  obtain⟨b1,off,rfl,iG0,iG,hc⟩:=HA.out wr hb q z.cells (by rw[gM,hz];rfl);have c0:=hc 0 _ rfl;have c1:=hc 1 _ rfl;rw[zN]at c0;rw[cO hz]at hre;unfold gU at hre;have a1:=λww=>aLV z.name ww;have a0:=λww hww=>a3 z.num ww hww;have HZ:=aC hz;have HS:=bG hsl hsb;have a6:=aEK z.name;clear hc hz a3 hsl hsb;generalize hck:bI z.name=ck at a1 hre a6;rcases hn:(ck !=0)with _|_
  .have a6 :=a6 hn;rw[hn,zA (by decide)]at hre;have a4:=λww=>sK z.name (by omega) ww
   have b4:(q=0/\dV es q=none)\/∃(k:Nat) (y:PEnt),(q:Int)-1=k/\k<es.length/\0<(q:Int)/\dV es q=some y.name/\wr.cell? ⟨b1,off+k*2,none⟩=some (.string y.name):=by
    by_cases hq0:q=0
    .exact .inl ⟨hq0,by simp[dV,hq0]⟩
    obtain⟨y,hy⟩:∃y,es[q-1]? =some y:=⟨_,gE (by omega)⟩;refine .inr ⟨q-1,y,by omega,by omega,by omega,by simp[dV,hq0,hy],?_⟩;obtain⟨b2,off2,he2,_,_,hc2⟩:=HA.out wr hb (q-1) y.cells (by rw[gM,hy];rfl);cases he2;exact hc2 0 _ rfl
   obtain⟨bk,hbkv⟩:∃bk:Nat,aZ z.name=bk:=⟨(aZ z.name).toNat,by have:=xQ z.name;omega⟩;have b5:bk<8:=by have:=xQ z.name;omega
   have a9:(bk:Int)<8:=by omega
   obtain⟨x,hx⟩:∃x,sl[bk]? =some x:=⟨_,gE (by have:=HS.out.1;omega)⟩;obtain⟨hx0,hx4⟩:=HS.out.2 bk x hx;have c3:wr.cell? ⟨w.heap.size+1+1,bk,none⟩=some (.int .i64 x):=by rw[HB.out.1.cell bk];simp[hx]
   have fz:wr.frozen? ⟨w.heap.size+1+1,bk,none⟩=false:=HB.out.1.frozen bk;rw[hbkv,zJ,hx]at hre;simp only at hre;rw[hbkv]at a4;have ew:IntKind.i64.wrap (x+1)=x+1:=I64.wrap ⟨by omega,by omega⟩;have b0:∀(wz:World),Bel w wz->Blk wz (w.heap.size+1+1) ((sl.map λx=>Value.int .i64 x).toArray.setIfInBounds bk (.int .i64 (x+1))) 3->Blk wz w.heap.size #[.slice ai ni ci,.slice ao no co,.slice am nm cm] 26->Blk wz (w.heap.size+1) #[xn,xd,.slice (some ⟨b1,off,none⟩) es.length cap,xs] 68->¬4<x+1->gU S (some z.name) (sl.set bk (x+1)) (es.drop (q+1))=R->
    ∃(q':Nat) (sl:List Int),Value.int .i64 ((q:Int)+1)=.int .i64 q'/\q'<=es.length/\sl.length=8/\(∀(k:Nat) (x:Int),sl[k]? =some x->0<=x/\x<=4)/\(∀p,dV es q'=some p->p.size<=12)/\gU S (dV es q') sl (es.drop q')=R/\Bl w wz/\Blk wz (w.heap.size+1+1) (sl.map λx=>.int .i64 x).toArray 3/\Blk wz w.heap.size #[.slice ai ni ci,.slice ao no co,.slice am nm cm] 26/\Blk wz (w.heap.size+1) #[xn,xd,.slice (some ⟨b1,off,none⟩) es.length cap,xs] 68:=by
    intro wz hwz hbz hbz1 hbz2 hx5 hr;have hp:dV es (q+1)=some z.name:=by unfold dV;rw[zA (by omega),Nat.add_sub_cancel,HZ.out];rfl
    refine⟨q+1,sl.set bk (x+1),by rfl,by omega,by rw[yB];exact HS.out.1,?_,?_,?_,hwz.below,?_,hbz1,hbz2⟩
    .intro k u hu;by_cases hkb:bk=k
     .subst hkb;have b6:bk<sl.length:=by have:=HS.out.1;omega
      rw[zY b6]at hu;cases hu;omega
     rw[zX hkb]at hu;exact HS.out.2 k u hu
    .intro p hp2;rw[hp]at hp2;cases hp2;exact a6
    .rw[hp];exact hr
    rw[sA,<-map_set]at hbz;exact hbz
   have b3:=aC b0;have HP:=aC hpz;clear b0 hbkv hx hpz;rcases b4 with⟨rfl,hp⟩|⟨k,y,hk1,hkl,hq1,hp,c2⟩
   .rw [hp]at hre;simp only[Nat.zero_mul,zN]at c0 c1;have a5:kE none z.name=false:=rfl;rw[a5,zA (by decide)]at hre;clear hp a5;by_cases h1:z.num=1
    .rw[zB h1]at hre;have a7:(z.num==1)=true:=by simpa using h1
     subst hre;clear h1;go_wp2;refine qR ?_
     repeat(go_big_quiet_step (first|(with_reducible first|refine cI (a1 _)|refine cJ (a1 _))|(with_reducible first|refine cI (a0 _ (bel _ _))|refine cJ (a0 _ (bel _ _)))))
     refine QN λp=>?_;go_wp2;go_ret;exact⟨rfl,bel _ _⟩
    rw [zA h1]at hre;have a7:(z.num==1)=false:=by simpa using h1
    generalize bM S z.num=fv at a0 hre;by_cases h2:fv<0
    .rw[zB h2]at hre;subst hre;go_wp2;refine qR ?_
     repeat(go_big_quiet_step (first|(with_reducible first|refine cI (a1 _)|refine cJ (a1 _))|(with_reducible first|refine cI (a0 _ (bel _ _))|refine cJ (a0 _ (bel _ _)))))
     refine QN λp=>?_;go_wp2;go_ret;exact⟨rfl,bel _ _⟩
    rw[zA h2]at hre;by_cases h3:4<x+1
    .rw[zB h3]at hre;subst hre;go_wp2;refine qR ?_
     repeat(go_big_quiet_step (first|(with_reducible first|refine cI (a1 _)|refine cJ (a1 _))|(with_reducible first|refine cI (a0 _ (bel _ _))|refine cJ (a0 _ (bel _ _)))))
     refine QN λp=>?_;go_wp2_with((go_at_call 87;refine aE (a4 _) λp=>?_));go_ret;exact⟨rfl,bel _ _⟩
    rw[zA h3]at hre;have a8:=aC hre;clear hre;go_wp2;refine qR ?_
    repeat(go_big_quiet_step (first|(with_reducible first|refine cI (a1 _)|refine cJ (a1 _))|(with_reducible first|refine cI (a0 _ (bel _ _))|refine cJ (a0 _ (bel _ _)))))
    refine QN λp=>?_;go_wp2_with((go_at_call 87;refine aE (a4 _) λp=>?_));go_roundw
    case rel=>exact b3.out _ ⟨bel _ _⟩ (((HB.out.1.set_ _ _).alloc _).junk _) (((Blk.apart HB.out.2.1 (by omega)).alloc _).junk _) (((Blk.apart HB.out.2.2 (by omega)).alloc _).junk _) h3 a8.out
    simp[intOf];omega
   have b7 :=HP.out y.name hp;rw[hp]at hre;have a5:kE (some y.name) z.name=!dX y.name z.name:=rfl;rw[a5]at hre;clear hp a5;have b8:0<q:=by omega
   have c6:IntKind.i64.wrap (k:Int)=k:=I64.wrap ⟨by omega,by omega⟩;have a2:=λww=>aEM y.name z.name (by omega) ww;generalize dX y.name z.name=bl at a2 hre;rcases bl with _|_
   .rw[Bool.not_false,zB rfl]at hre;subst hre;go_wp2;refine qR ?_
    repeat(go_big_quiet_step (first|(with_reducible first|refine cI (a1 _)|refine cJ (a1 _))|(with_reducible first|refine cI (a2 _)|refine cJ (a2 _))|(with_reducible first|refine cI (a0 _ (bel _ _))|refine cJ (a0 _ (bel _ _)))))
    refine QN λp=>?_;go_wp2;go_ret;exact⟨rfl,bel _ _⟩
   rw [Bool.not_true,zA (by decide)]at hre;by_cases h1:z.num=1
   .rw[zB h1]at hre;have a7:(z.num==1)=true:=by simpa using h1
    subst hre;clear h1;go_wp2;refine qR ?_
    repeat(go_big_quiet_step (first|(with_reducible first|refine cI (a1 _)|refine cJ (a1 _))|(with_reducible first|refine cI (a2 _)|refine cJ (a2 _))|(with_reducible first|refine cI (a0 _ (bel _ _))|refine cJ (a0 _ (bel _ _)))))
    refine QN λp=>?_;go_wp2;go_ret;exact⟨rfl,bel _ _⟩
   rw [zA h1]at hre;have a7:(z.num==1)=false:=by simpa using h1
   generalize bM S z.num=fv at a0 hre;by_cases h2:fv<0
   .rw[zB h2]at hre;subst hre;go_wp2;refine qR ?_
    repeat(go_big_quiet_step (first|(with_reducible first|refine cI (a1 _)|refine cJ (a1 _))|(with_reducible first|refine cI (a2 _)|refine cJ (a2 _))|(with_reducible first|refine cI (a0 _ (bel _ _))|refine cJ (a0 _ (bel _ _)))))
    refine QN λp=>?_;go_wp2;go_ret;exact⟨rfl,bel _ _⟩
   rw[zA h2]at hre;by_cases h3:4<x+1
   .rw[zB h3]at hre;subst hre;go_wp2;refine qR ?_
    repeat(go_big_quiet_step (first|(with_reducible first|refine cI (a1 _)|refine cJ (a1 _))|(with_reducible first|refine cI (a2 _)|refine cJ (a2 _))|(with_reducible first|refine cI (a0 _ (bel _ _))|refine cJ (a0 _ (bel _ _)))))
    refine QN λp=>?_;go_wp2_with((go_at_call 87;refine aE (a4 _) λp=>?_));go_ret;exact⟨rfl,bel _ _⟩
   rw[zA h3]at hre;have a8:=aC hre;clear hre;go_wp2;refine qR ?_
   repeat(go_big_quiet_step (first|(with_reducible first|refine cI (a1 _)|refine cJ (a1 _))|(with_reducible first|refine cI (a2 _)|refine cJ (a2 _))|(with_reducible first|refine cI (a0 _ (bel _ _))|refine cJ (a0 _ (bel _ _)))))
   refine QN λp=>?_;go_wp2_with((go_at_call 87;refine aE (a4 _) λp=>?_));go_roundw
   case rel=>exact b3.out _ ⟨bel _ _⟩ (((HB.out.1.set_ _ _).alloc _).junk _) (((Blk.apart HB.out.2.1 (by omega)).alloc _).junk _) (((Blk.apart HB.out.2.2 (by omega)).alloc _).junk _) h3 a8.out
   simp[intOf];omega
  rw[hn,zB rfl]at hre;subst hre;go_wp2;refine qR ?_
  repeat(go_big_quiet_step (first|(with_reducible first|refine cI (a1 _)|refine cJ (a1 _))|(with_reducible first|refine cI (a0 _ (bel _ _))|refine cJ (a0 _ (bel _ _)))))
  refine QN λp=>?_;go_wp2;go_ret;exact⟨rfl,bel _ _⟩
 rw[zS (by omega)]at hre;obtain rfl:R=true:=by rw[<-hre];rfl
 go_wp2;go_ret;exact⟨rfl,bel _ _⟩
section
def TodoI (X:Nat->Prop) (w:World) (v:Value) (xs:List Int):Prop:=
 ∃g off cap arr,v=.slice (some ⟨g,off,none⟩) xs.length cap/\¬X g/\Blk w g arr 3/\xs.length<=cap/\off+cap<=arr.size/\∀(i:Nat) (x:Int),xs[i]? =some x->arr[off+i]? =some (.int .i64 x)
variable {v:Value} {w:World} {xs:List Int}
theorem TodoI.alloc {X:Nat->Prop} (h:TodoI X w v xs) (o:Obj):TodoI X (w.alloc o) v xs:=by obtain⟨g,off,cap,arr,e,hx,hb,r⟩:=h;exact⟨g,off,cap,arr,e,hx,hb.alloc o,r⟩
theorem TodoI.junk {X:Nat->Prop} (h:TodoI X w v xs) (o:Behind):TodoI X (w.junk o) v xs:=by obtain⟨g,off,cap,arr,e,hx,hb,r⟩:=h;exact⟨g,off,cap,arr,e,hx,hb.junk o,r⟩
theorem TodoI.far {X:Nat->Prop} (h:TodoI X w v xs) {a:Addr} (ha:X a.block) (u:Value):TodoI X (w.setCell a u) v xs:=by obtain⟨g,off,cap,arr,e,hx,hb,r⟩:=h;exact⟨g,off,cap,arr,e,hx,hb.far (λe=>hx (by rw[e];exact ha)) u,r⟩
theorem qF {P:Program} (hP:P.underlying 24=some (.slice 3)) (hI:(P.info? 3).map (λi=>(i.zero,i.size,i.bytes))=some (some (.int .i64 0),1,8))
 (w:World) {ops:Array Oper} {rest:List Oper} {o:Oper} {a:Act} {Q:Exit->Act->World->Prop} (hg:o.guard=none) (s x:Operand)
 (hop:o.op=Op.call { callee:=Callee.builtin Builtin.append,args:=#[s,x],argTypes:=#[24,24]}) (X:Nat->Prop) (v:Value) (xs:List Int) (hs:a.eval s=v) (ht:TodoI X w v xs) (hX:∀g,w.heap.size<=g->¬X g)
 (ad:Addr) (c:Nat) (k:Int) (hx:a.eval x=.slice (some ad) 1 c) (hc:w.cell? ad=some (.int .i64 k)) (hlen:xs.length<=1000000000000)
 (hK:∀v' w',TodoI X w' v' (xs++[k])->Keep (λg=>¬X g) w w'->wpList P ops Q rest (a.put o.dst v') w'):
 wpList P ops Q (o::rest) a w:=by
 obtain⟨i0,hi,hz0,hz1,hz2⟩:=info_parts hI;obtain⟨g,off,cap,arr,rfl,hnx,hb,hle,har,hel⟩:=ht;refine wpList_append_arg w hg s x 24 hop 3 i0 (.int .i64 0) 1 8 hP hi hz0 hz1 hz2 rfl (by decide) g off xs.length cap (xs.map λy:Int=>.int .i64 y) hs (by simp) ?_ ad 1 c [.int .i64 k] hx rfl ?_ ?_ ?_ (by unfold maxLen;omega) (by omega) ?_ ?_
 .intro j u hj;rw[gM]at hj;obtain⟨y,hy,rfl⟩:=Option.map_eq_some_iff.1 hj;rw[hb.cell];exact hel j y hy
 .intro j u hj;have:j=0:=by
   rcases j with _|j
   .rfl
   simp at hj
  subst this;simp only[zH,zF]at hj;subst hj;have e:ad.add 0=ad:=by unfold Addr.add;split<;>simp_all
  rw[e];exact hc
 .intro u hu;simp only[yZ]at hu;subst hu;rfl
 .intro hr j hj;simp only[zK,yX]at hj;obtain rfl:j=0:=by omega
  rw[hb.cell,hb.frozen,zN,Nat.mul_one];refine⟨?_,rfl⟩;rw[yA (by omega)];rfl
 .intro hr;refine hK _ _ ⟨g,off,cap,arr.setIfInBounds (off+xs.length) (.int .i64 k),by simp,hnx,?_,by simp;omega,by simp;omega,?_⟩ ?_
  .simp only[Nat.mul_one,World.setCells];exact hb.set_ _ _
  .intro i y hy;rw[yE];by_cases hi:i<xs.length
   .rw[zZ hi]at hy;rw[zA (by omega)];exact hel i y hy
   rw[yC (by omega)]at hy;have h0:i-xs.length=0:=by
    rcases hq:i-xs.length with _|j
    .rfl
    rw[hq]at hy;simp at hy
   rw[h0]at hy;simp only[zH,zF]at hy;subst hy;obtain rfl:i=xs.length:=by omega
   rw[zB rfl,zB (by omega)]
  simp only[Nat.mul_one,World.setCells];exact(Keep.refl _ w).setCell (p:=⟨g,_,none⟩) (.inl hnx) _
 intro hr v' w' hown hgr;refine hK _ _ ?_ ((Keep.refl _ w).grown hgr (by simp));obtain⟨hl,h0|⟨g',cap',cur,rfl,hge,hcur,hnc,hcm,hsz,htk⟩⟩:=hown
 .omega
 refine⟨g',0,cap',cur,by simp,hX g' hge,hcur,by simp;omega,by omega,?_⟩;intro i y hy;have a0:i<xs.length+1:=by obtain⟨h,_⟩:=gI.1 hy;simpa using h
 have h2:(cur.toList.take ((xs.length+1)*1))[i]? =some (.int .i64 y):=by
  rw[htk];have:(xs.map (λy:Int=>Value.int .i64 y)++[.int .i64 k])=(xs++[k]).map (λy:Int=>Value.int .i64 y):=by simp
  rw[this,gM,hy];rfl
 rw[yO,zB (by omega)]at h2;rw[zM];simpa using h2
def nU:List PIn->List Bool->Nat
 |x::r,b::fd=>(if b=true then 0 else x.ents.length)+nU r fd
 |_,_=>0
theorem xS:∀(xs:List PIn) (fd:List Bool) (k:Nat) (x:PIn),xs[k]? =some x->fd[k]? =some false->nU xs (fd.set k true)+x.ents.length=nU xs fd
 |[],_,_,_,h,_=>by simp at h
 |_::_,[],_,_,_,h=>by simp at h
 | y::r,b::fd,0,x,h1,h2=>by simp at h1 h2;subst h1;subst h2;simp[nU];omega
 | y::r,b::fd,k+1,x,h1,h2=>by have:=xS r fd k x (by simpa using h1) (by simpa using h2);simp only[sS,nU];omega
def kF (x:PIn):List Int:=if x.dir=true then x.ents.map PEnt.num else[]
def fT (S:PSt):Nat->List Int->List Bool->List Bool
 |0,_,fd=>fd
 |_+1,[],fd=>fd
 | g+1,n::st,fd=>
   if bM S n<0 then fT S g st fd
   else if fd.getD (bM S n).toNat true=true then fT S g st fd
   else match S.ins[(bM S n).toNat]? with
    |some x=>fT S g ((kF x).reverse++st) (fd.set (bM S n).toNat true)
    |none=>fd
def eS (S:PSt):List Bool:=fT S (1+nU S.ins (List.replicate S.ins.length false)) [1] (List.replicate S.ins.length false)
theorem aLU (B:Nat):∀(xs:List PIn) (fd:List Bool),(∀x∈xs,x.ents.length<=B)->nU xs fd<=B*xs.length
 |[],_,_=>by simp[nU]
 |_::_,[],_=>by simp[nU]
 | x::r,b::fd,h=>by
   have h1:=aLU B r fd (λy hy=>h y (zL _ hy));have h2:=h x (by simp);have h3:B*(r.length+1)=B*r.length+B:=by rw[Nat.mul_add,Nat.mul_one]
   simp only[nU,zK];rw[h3];split<;>omega
theorem aPF (S:PSt) (iv ov mv:Value) (w:World) (h:StRead w iv ov mv S) (hwf:S.wf) (hsm:S.ins.length<=300):
 Calls prog 59 #[.agg #[iv,ov,mv]] w λe w'=>∃F:Nat,e=.returned (.slice F S.ins.length S.ins.length)/\Bl w w'/\RowAt w' 1 (.slice F S.ins.length S.ins.length) ((eS S).map bS):=by
 have b4:∀n ww,Bl w ww->vR ww 85 #[.agg #[iv,ov,mv],.int .i64 n] (.int .i64 (bM S n)):=λn ww hb=>aAS S iv ov mv n ww (h.below hb (zC _)) hwf.1;obtain⟨ai,ni,ci,ao,no,co,am,nm,cm,rfl,rfl,rfl⟩:=h.slices;obtain⟨a,cap,e1,hai⟩:=h.ins_at2;cases e1;have HI:=aC hai;have c5:=aC hwf.2.2.2.1;have b0:nU S.ins (List.replicate S.ins.length false)<=300000000000:=by have h1:=aLU 1000000000 S.ins (List.replicate S.ins.length false) (λx hx=>(hwf.2.2.2.1 x hx).2.1);have h2:1000000000*S.ins.length<=1000000000*300:=Nat.mul_le_mul_left _ hsm;omega
 clear h hai hwf;obtain⟨j0,ji,jz0,jz1,jz2⟩:=info_parts aUD;have c6:∀u:World,(Instr.makeSlice 39 (.int .i64 S.ins.length) (.int .i64 S.ins.length)).run prog u=.ok (.slice (some ⟨u.heap.size,0,none⟩) S.ins.length S.ins.length) (u.alloc (.cells ((List.replicate S.ins.length false).map λx=>Value.bool x).toArray 4)):=λu=>by have:=run_makeSlice (P:=prog) u 39 4 j0 _ underlying39 ji jz0 .i64 .i64 S.ins.length S.ins.length (by omega) (Int.le_refl _) (by rw[jz1];omega) (by rw[jz2];omega) (by omega);rw[<-sH (λx=>Value.bool x)];simpa[jz1,Value.cells]using this
 clear ji jz0 jz1 jz2;obtain⟨FF,hFF⟩:∃FF,eS S=FF:=⟨_,rfl⟩;rw[hFF];unfold eS at hFF;obtain⟨N,hN⟩:∃N,1+nU S.ins (List.replicate S.ins.length false)=N:=⟨_,rfl⟩;rw[hN]at hFF;have c7:N<=400000000000:=by omega
 have b5:=bG hFF hN;clear hFF hN b0;obtain⟨X,hX⟩:∃X:Nat->Prop,X=λg=>g<w.heap.size+1+1:=⟨_,rfl⟩;have a6:∀g,X g↔g<w.heap.size+1+1:=λg=>by rw[hX]
 have HX:=aC a6;clear a6;clear hX;go_in;go_wp2
 go_loopg [4] N (λgk td wr=>∃(st:List Int) (fd:List Bool),TodoI X wr td st.reverse/\fd.length=S.ins.length/\nU S.ins fd+st.length<=gk/\fT S gk st fd=FF/\Bl w wr/\Blk wr w.heap.size #[.slice ai S.ins.length ci,.slice ao no co,.slice am nm cm] 26/\Blk wr (w.heap.size+1) (fd.map λx=>Value.bool x).toArray 4/\gk<=N)
 case atStart=>
  refine⟨[1],List.replicate S.ins.length false,?_,by simp,?_,b5.out.1,bel _ _,((Blk.new w _ 26).alloc _).alloc _,?_,zC _⟩
  .exact⟨w.heap.size+1+1,0,1,#[.int .i64 1],rfl,λe=>by have:=(HX.out _).1 e;omega,Blk.new_i _ _ _ _,by simp,by simp,λi x hx=>by
    rcases i with _|i
    .simp at hx;subst hx;rfl
    simp at hx⟩
  .have:=b5.out.2;simp only[zK,yX];omega
  have:=(Blk.new_i (w.alloc (.cells #[.slice ai S.ins.length ci,.slice ao no co,.slice am nm cm] 26)) (Array.replicate S.ins.length (.bool false)) 4 (w.heap.size+1)).alloc (.cells #[.int .i64 1] 3);simpa using this
 obtain⟨st,fd,hT,hfl,hpot,hre,hb,hbs,hbf,hgk⟩:=hrel
 rename World=>wq
 have iB:Bel w wq:=⟨hb⟩;have iL:=hbs.lt;have iF:=hbf.lt;obtain⟨-,s0,s1,s2⟩:=gN hbs;obtain⟨g,off,cap,arr,rfl,hng,hbk,hle,har,a3⟩:=hT;rcases st with _|⟨n,st⟩
 .have c8:fd=FF:=by rw[<-hre];rcases gk with _|gk<;>rfl
  subst c8;have HP:=eK hbf hfl hb;clear hbs hbf hre hpot a3;simp only[reverse_nil,yX]at *;go_wp2;go_ret;refine⟨_,rfl,bel _ _,?_⟩;have:=RowAt.of_blk (cap:=S.ins.length) (λx=>Value.bool x) fd HP.out.1 (by unfold maxLen;have:=HP.out.2.1;omega);rw[HP.out.2.1]at this;exact this
 rcases gk with _|gk
 .simp at hpot
 obtain⟨L,hL⟩:∃L,st.length+1=L:=⟨_,rfl⟩;have b6:(n::st).reverse.length=L:=by simp[hL]
 have hn:arr[off+st.length]? =some (.int .i64 n):=a3 st.length n (by simp);have a7:∀(i:Nat) (x:Int),st.reverse[i]? =some x->arr[off+i]? =some (.int .i64 x):=λi x hx=>a3 i x (by
  rw[reverse_cons,zZ (by obtain⟨h,_⟩:=gI.1 hx;exact h)];exact hx)
 rw[b6]at hle |-;have cg:wq.cell? ⟨g,off+st.length,none⟩=some (.int .i64 n):=by rw[hbk.cell];exact hn
 have iG:=hbk.lt;have b7:∀wr,Blk wr g arr 3->TodoI X wr (.slice (some ⟨g,off,none⟩) st.length cap) st.reverse:=λwr hbk=>⟨g,off,cap,arr,by simp,hng,hbk,by simp;omega,har,a7⟩;have d4:(L:Int)-1=st.length:=by omega
 have d5:st.length<L:=by omega
 have d6:0<L:=by omega
 have d7:(st.length:Int)<=400000000000:=by simp only[zK]at hpot;omega
 have w1:IntKind.i64.wrap (st.length:Int)=st.length:=I64.wrap ⟨by omega,by omega⟩;have c9:(st.length:Int)<=cap:=by omega
 have b8:st.length<=cap:=by omega
 have a0:=λww hww=>b4 n ww hww;have b1:=fC S n;rw[fT]at hre;have d8:¬cap=0:=by omega
 have HB:=jj6 hbk hbs hbf hfl b7 hng;have b9:nU S.ins fd+st.length<=gk:=by simp only[zK]at hpot;omega
 clear hL a3 a7 hn b6 har hle hbk hbs hbf b7 hng hpot b4;generalize bM S n=K at hre a0 b1;go_upto_region 4 with fail;refine qR ?_
 repeat(go_big_quiet_step ((with_reducible first|refine cI (a0 _ (bel _ _))|refine cJ (a0 _ (bel _ _)))))
 refine QN λp=>?_;by_cases hK:K<0
 .rw[zB hK]at hre;have a2:=aC hre;clear hre b1;go_wp2
  go_roundg gk
  case rel=>exact⟨st,fd,HB.out.2.2.2.2.1 _ (HB.out.1.junk _),HB.out.2.2.2.1,by omega,a2.out,bel _ _,HB.out.2.1.junk _,HB.out.2.2.1.junk _,by omega⟩
  omega
 rw [zA hK]at hre;obtain⟨k,rfl⟩:∃k:Nat,K=k:=⟨K.toNat,by omega⟩;have hk:k<S.ins.length:=by omega
 obtain⟨x,hx⟩:∃x,S.ins[k]? =some x:=⟨_,gE hk⟩;obtain⟨y,hy⟩:∃y,fd[k]? =some y:=⟨_,gE (by have:=HB.out.2.2.2.1;omega)⟩;have c3:wq.cell? ⟨w.heap.size+1,k,none⟩=some (.bool y):=by rw[HB.out.2.2.1.cell k];simp[hy]
 have f3:wq.frozen? ⟨w.heap.size+1,k,none⟩=false:=HB.out.2.2.1.frozen k;rw[zJ,zG,hy,Option.getD_some,hx]at hre;simp only at hre;have d9:(k:Int)<S.ins.length:=by omega
 clear b1 hK;rcases y with _|_
 .rw [zA (by decide)]at hre;have b2:=xS S.ins fd k x hx hy;obtain⟨bi,oi,ev,rfl,iI0,hoi,her,hci⟩:=HI.out k x hx;obtain⟨iI,x0,x1,x2,x3⟩:=hci wq hb;have a3:=(c5.out x (mG hx)).2.1;obtain⟨ae,ce,rfl,hae⟩:=her.at_;rw[lM]at hci x2;obtain⟨xn,xd,xe,xs⟩:=x;simp only at x1 x2 hae hci a3 b2;have HC:=bG hae hci;have a2:=bG hre b2;clear her hoi hae hci x0 x1 x2 x3 hx hy hre b2
  go_upto_region 9 with fail;have d0:w.heap.size<=wq.heap.size:=hb.size;have c0:TodoI X (((wq.setCell ⟨w.heap.size+1,k,none⟩ (.bool true)).junk p)) (.slice (some ⟨g,off,none⟩) st.length cap) st.reverse:=HB.out.2.2.2.2.1 _ ((HB.out.1.far (λe=>HB.out.2.2.2.2.2 ((HX.out g).2 (by simp at e;omega))) _).junk _);have e0:BlockGe (w.heap.size+1) w:=⟨by omega⟩;have a4:Blk ((wq.setCell ⟨w.heap.size+1,k,none⟩ (.bool true)).junk p) (w.heap.size+1) ((fd.set k true).map λx=>Value.bool x).toArray 4:=by have:=(HB.out.2.2.1.set_ k (.bool true)).junk p;rw[sA,<-map_set (f:=λx=>Value.bool x)]at this;exact this
  have a1:Blk ((wq.setCell ⟨w.heap.size+1,k,none⟩ (.bool true)).junk p) w.heap.size #[.slice (some ⟨bi,oi,none⟩) S.ins.length ci,.slice ao no co,.slice am nm cm] 26:=(HB.out.2.1.far (by show _≠_;simp) _).junk p;have a5:Bl w ((wq.setCell ⟨w.heap.size+1,k,none⟩ (.bool true)).junk p):=bel _ _;have H2:=lE c0 a5 a1 a4;clear c0 a4 a1 a5 d0
  go_loopw[4,6] (λv4 i wr=>∃(j:Nat),i=.int .i64 j/\j<=xe.length/\(xd=false->j=0)/\TodoI X wr v4 (st.reverse++(xe.take j).map PEnt.num)/\Bl w wr/\Blk wr w.heap.size #[.slice (some ⟨bi,oi,none⟩) S.ins.length ci,.slice ao no co,.slice am nm cm] 26/\Blk wr (w.heap.size+1) ((fd.set k true).map λx=>Value.bool x).toArray 4) (λ_ i _=>(xe.length-intOf i).toNat)
  case atStart=>exact⟨0,rfl,by omega,λ_=>rfl,by simpa using H2.out.1,H2.out.2.1,H2.out.2.2.1,H2.out.2.2.2⟩
  clear s0 s1 s2 iB iL iF iI cg c3 f3 iG;obtain⟨j,rfl,hj,hjd,hT,a5,a1,a4⟩:=hrel;have iB:Bel w wr:=⟨a5⟩;have iL:=a1.lt;have iF:=a4.lt;have s0:=a1.cell 0;simp at s0;obtain⟨iI,x0,x1,x2,x3⟩:=HC.out.2 wr a5;clear x0 x3;obtain⟨g2,off2,cap2,arr2,rfl,-⟩:=id hT;have c1:(st.reverse++(xe.take j).map PEnt.num).length<=1000000000000:=by rw[lP,lM,zU,length_reverse];omega
  generalize hxl:(st.reverse++(xe.take j).map PEnt.num).length=xl at hT c1 |-;have a8:∀(wz:World),Bel w wz->(xd=false\/j=xe.length)->TodoI X wz (.slice (some ⟨g2,off2,none⟩) xl cap2) (st.reverse++(xe.take j).map PEnt.num)->Blk wz w.heap.size #[.slice (some ⟨bi,oi,none⟩) S.ins.length ci,.slice ao no co,.slice am nm cm] 26->Blk wz (w.heap.size+1) ((fd.set k true).map λx=>Value.bool x).toArray 4->
   ∃(st':List Int) (fd':List Bool),TodoI X wz (.slice (some ⟨g2,off2,none⟩) xl cap2) st'.reverse/\fd'.length=S.ins.length/\nU S.ins fd'+st'.length<=gk/\fT S gk st' fd'=FF/\Bl w wz/\Blk wz w.heap.size #[.slice (some ⟨bi,oi,none⟩) S.ins.length ci,.slice ao no co,.slice am nm cm] 26/\Blk wz (w.heap.size+1) (fd'.map λx=>Value.bool x).toArray 4/\gk<=N:=by
   intro wz i1 hc h1 h2 h3;have c2:(xe.take j).map PEnt.num=kF ⟨xn,xd,xe,xs⟩:=by
    rcases hc with rfl|rfl
    .rw[hjd rfl];rfl
    rcases xd with _|_
    .rw[hjd rfl];rfl
    simp[kF]
   have e2:(kF ⟨xn,xd,xe,xs⟩).length<=xe.length:=by rw[<-c2];simp;omega
   refine⟨(kF ⟨xn,xd,xe,xs⟩).reverse++st,fd.set k true,?_,by rw[yB];exact HB.out.2.2.2.1,?_,a2.out.1,i1.below,h2,h3,by omega⟩
   .have e:((kF ⟨xn,xd,xe,xs⟩).reverse++st).reverse=st.reverse++(xe.take j).map PEnt.num:=by rw[c2];simp
    rw[e];exact h1
   have:=a2.out.2;rw[lP,length_reverse];omega
  have HE:=aC a8;have HT:=eK hT a1 a4;have a6:∀(wz:World),Bel w wz->BlockLt (w.heap.size+1) wz->∀g,wz.heap.size<=g->¬X g:=by intro wz i1 i2 g hg hx;have:=(HX.out g).1 hx;have:=i2.lt;omega
  have d1:=aC a6;have d2:=aC hxl;clear a8 hT a1 a4 a6 hxl;rcases xd with _|_
  .obtain rfl:=hjd rfl;by_cases h0:0<xe.length
   .go_wp2
    go_roundg gk
    case rel=>exact HE.out _ ⟨bel _ _⟩ (by simp) HT.out.1 HT.out.2.1 HT.out.2.2
    omega
   go_wp2
   go_roundg gk
   case rel=>exact HE.out _ ⟨bel _ _⟩ (by simp) HT.out.1 HT.out.2.1 HT.out.2.2
   omega
  by_cases hlj:j<xe.length
  .obtain⟨z,hz⟩:∃z,xe[j]? =some z:=⟨_,gE hlj⟩
   obtain⟨be,oe,rfl,iE0,iE,hce⟩:=HC.out.1 wr a5 j z.cells (by rw[gM,hz];rfl);have e1:=hce 1 _ rfl;have c4:(xe.take (j+1)).map PEnt.num=(xe.take j).map PEnt.num++[z.num]:=by rw[take_add_one,hz];simp
   have HK:=aC c4;clear hce hz c4;have b3:(j:Int)<xe.length:=by omega
   go_wp2_with(at_builtin;refine qF (by kernel_rfl) aAB _ rfl (.tmp 58) (.tmp 69) rfl X _ (st.reverse++(xe.take j).map PEnt.num) rfl (HT.out.1.alloc _) (d1.out _ ⟨bel _ _⟩ inferInstance) _ _ z.num rfl (by go_simp) (by rw[d2.out];exact c1) ?_);intro v' w' hT3 hkp3;have a9:=bG hT3 hkp3;obtain⟨g3,off3,cap3,arr3,rfl,-⟩:=id hT3;clear hT3 hkp3;go_wp2;go_roundw
   case rel=>
    refine⟨j+1,by rfl,by omega,(λh=>by cases h),?_,(bel w _).trans (a9.out.2.below (bel w _).size (λi hi hn=>hn ((HX.out i).2 (by omega)))),?_,?_⟩
    .rw[HK.out];simpa using a9.out.1
    .exact a9.out.2.blk (HT.out.2.1.alloc _) (λhn=>hn ((HX.out _).2 (by omega)))
    exact a9.out.2.blk (HT.out.2.2.alloc _) (λhn=>hn ((HX.out _).2 (by omega)))
   simp[intOf];omega
  have d3:j=xe.length:=by omega
  have b3:¬(j:Int)<xe.length:=by omega
  go_wp2
  go_roundg gk
  case rel=>have hz:=HE.out _ ⟨bel _ _⟩ (.inr d3) HT.out.1 HT.out.2.1 HT.out.2.2;first|exact hz|simpa using hz
  omega
 rw[zB rfl]at hre;have a2:=aC hre;clear hre hx hy;go_wp2
 go_roundg gk
 case rel=>exact⟨st,fd,HB.out.2.2.2.2.1 _ (HB.out.1.junk _),HB.out.2.2.2.1,by omega,a2.out,bel _ _,HB.out.2.1.junk _,HB.out.2.2.1.junk _,by omega⟩
 omega
end
def cQ {α:Type} (p:α->Bool) (x:α):List α->Bool->List α->List α
 |[],d,zs=>if d=true then zs else zs++[x]
 |e::r,d,zs=>if d=true then cQ p x r true (zs++[e])else if p e=true then cQ p x r true (zs++[x]++[e])else cQ p x r false (zs++[e])
theorem qA {α:Type} (p:α->Bool) (x:α) (es:List α) (q:Nat) (e:α) (d:Bool) (zs:List α) (h:es[q]? =some e):
 cQ p x (es.drop q) d zs=if d=true then cQ p x (es.drop (q+1)) true (zs++[e])else if p e=true then cQ p x (es.drop (q+1)) true (zs++[x]++[e])else cQ p x (es.drop (q+1)) false (zs++[e]):=by
 obtain⟨hl,rfl⟩:=gI.1 h;rw[yH hl,cQ]
theorem xN {α:Type} (p:α->Bool) (x:α) (es:List α) (q:Nat) (d:Bool) (zs:List α) (h:¬q<es.length):cQ p x (es.drop q) d zs=if d=true then zs else zs++[x]:=by rw[zS (by omega),cQ]
def eD (b:Int) (but:ByteArray):List PEnt->Int->Int
 |[],a=>a
 |e::r,a=>eD b but r (if (!(e.name.toList==but.toList)&&aZ e.name==b)=true then a+1 else a)
section
variable {P:Program} {a:Act} {o:Oper} {w:World}
theorem nQ (w:World) (t ty e:TypeId) (i:TypeInfo) (ht:P.underlying t=some (.slice e)) (hi:P.info? e=some i) (n cap c:Nat) (a:Option Addr) (hn:n<=cap):
 (Builtin.append_ #[t,t] ty #[.slice a n cap,.slice none 0 c]).run P w=.ok (.slice a n cap) w:=by
 rcases a with _|a
 .simp[Builtin.append_,run_underlying ht,sizeOf,typeInfo,hi,Builtin.lenOf,hn,run_firstCells_none,Builtin.firstCells,loadCells,loadCellsFrom]
 simp[Builtin.append_,run_underlying ht,sizeOf,typeInfo,hi,Builtin.lenOf,hn,run_firstCells_none,Builtin.firstCells,loadCells,loadCellsFrom,storeCells]
theorem aJF {k n cap:Nat} {a:Option Addr} {rows:List (List Value)} (h:RowAt w k (.slice a n cap) rows) (hk:0<k) (hu:∀cs∈rows,cs.length=k) (ad:Addr) (had:a=some ad):∀j u,rows.flatten[j]? =some u->w.cell? (ad.add j)=some u:=by
 intro j u hj;obtain⟨a',cap',he,hm,hr⟩:=h;simp only[zO]at he;obtain⟨rfl,rfl,rfl⟩:=he;subst had;have hl:=eT k rows hu;obtain⟨hjl,_⟩:=gI.1 hj;rw[hl]at hjl;have h0:0<rows.length:=by
  rcases hz:rows.length with _|m
  .rw[hz]at hjl;omega
  omega
 obtain⟨b,off,he,hb,hc⟩:=hr h0;simp only[zF]at he;subst he;have a0:j=j/k*k+j%k:=by rw[Nat.mul_comm];exact(Nat.div_add_mod j k).symm
 have a1:j%k<k:=Nat.mod_lt _ hk;have hq:j/k<rows.length:=Nat.div_lt_of_lt_mul (by rwa [Nat.mul_comm]);have a2:=hu rows[j/k] (getElem_mem hq);have h1:=pM k rows hu (j/k) (j%k) a1;rw[<-a0,hj,gE hq]at h1;have h2:=hc (j/k) rows[j/k] (gE hq) (j%k) u h1.symm;rw[Addr.add_lit];rw[show off+j=off+j/k*k+j%k by omega];exact h2
def Grew (B:Nat) (e:TypeId) (k:Nat) (w:World) (v:Value) (rows:List (List Value)) (v':Value) (w':World):Prop:=
 OwnP B w' e k v' rows/\Keep (λg=>v.ownBlock=some g) w w'/\(v'.ownBlock=v.ownBlock\/v'.ownBlock=some w.heap.size)
theorem sF (w:World) (B:Nat) (t ty e:TypeId) (k bytes:Nat) (i:TypeInfo) (z:Value) (ht:P.underlying t=some (.slice e)) (hi:P.info? e=some i) (hz:i.zero=some z) (hsize:i.size=k) (hby:i.bytes=bytes) (hzs:z.cells.size=k) (hk:0<k)
 (v x:Value) (rows more:List (List Value)) (hu:∀cs∈rows,cs.length=k) (hum:∀cs∈more,cs.length=k) (h1:∀cs∈more,∀u∈cs,u.oneCell'=true) (ho:OwnP B w e k v rows) (hx:RowAt w k x more) (h63:rows.length+more.length<=maxLen) (hb:(rows.length+more.length)*bytes<=140737488355328) (hB:B<=w.heap.size):
 ∃v' w',(Builtin.append_ #[t,t] ty #[v,x]).run P w=.ok v' w'/\Grew B e k w v (rows++more) v' w':=by
 have a1:=hx;obtain⟨a,cap,rfl,hm,hr⟩:=a1;rcases a with _|ad
 .have h0:more=[]:=by
   rcases hz2:more.length with _|m
   .exact zT hz2
   obtain⟨b,off,he,_⟩:=hr (by omega);cases he
  subst h0;have a0:(Builtin.append_ #[t,t] ty #[v,.slice none ([]:List (List Value)).length cap]).run P w=.ok v w:=by
   rcases ho with⟨rfl,rfl⟩|⟨g,cap',arr,rfl,hg,hbk,hn,_⟩
   .exact nQ w t ty e i ht hi 0 0 cap none (zC _)
   exact nQ w t ty e i ht hi _ cap' cap _ hn
  refine⟨v,w,a0,by rw[append_nil];exact ho,Keep.refl _ _,.inl rfl⟩
 obtain⟨v',w',a0,hown,hgr,_,hat⟩:=run_append_own_at (P:=P) w B t ty e i z k bytes ht hi hz hsize hby hzs hk v rows.length rows.flatten (ho.own hk hu) ad more.length cap more.flatten (eT k more hum) (aJF hx hk hum ad rfl) (λu hu2=>by
  obtain⟨cs,hcs,hu3⟩:=mem_flatten.1 hu2;exact h1 cs hcs u hu3) h63 hb hB
 refine⟨v',w',a0,?_,(Keep.refl _ w).grown hgr (λg hg=>.inl hg),hat⟩;refine OwnP.of_own ?_ hk (λcs hcs=>(mem_append.1 hcs).elim (hu cs) (hum cs));rw[lP,flatten_append];exact hown
theorem jJ (w:World) {ops:Array Oper} {rest:List Oper} {Q:Exit->Act->World->Prop} (hgd:o.guard=none) (s y:Operand) (t:TypeId)
 (hop:o.op=.call { callee:=.builtin .append,args:=#[s,y],argTypes:=#[t,t]})
 (B:Nat) (e:TypeId) (k bytes:Nat) (i:TypeInfo) (z:Value) (ht:P.underlying t=some (.slice e)) (hi:P.info? e=some i) (hz:i.zero=some z) (hsize:i.size=k) (hby:i.bytes=bytes) (hzs:z.cells.size=k) (hk:0<k)
 (v x:Value) (rows more:List (List Value)) (hs:a.eval s=v) (hy:a.eval y=x) (hu:∀cs∈rows,cs.length=k) (hum:∀cs∈more,cs.length=k) (h1:∀cs∈more,∀u∈cs,u.oneCell'=true) (ho:OwnP B w e k v rows) (hx:RowAt w k x more) (h63:rows.length+more.length<=maxLen) (hb:(rows.length+more.length)*bytes<=140737488355328) (hB:B<=w.heap.size)
 (h:∀v' w',Grew B e k w v (rows++more) v' w'->wpList P ops Q rest (a.put o.dst v') w'):
 wpList P ops Q (o::rest) a w:=by
 refine wpList_plain hgd λK hK=>?_;obtain⟨v',w',hr,hg⟩:=sF (P:=P) w B t o.type e k bytes i z ht hi hz hsize hby hzs hk v x rows more hu hum h1 ho hx h63 hb hB;unfold Oper.wp execOp;simp only[hop,resolve,invoke,builtin,Sem.run_bind,Sem.run_pure,Result.andThen_ok,map_toArray,xB,map_nil,hs,hy,hr];exact hK _ _ (h v' w' hg)
theorem aEG {K:Value->World->Prop} (s y:Operand) (t:TypeId)
 (hop:o.op=.call { callee:=.builtin .append,args:=#[s,y],argTypes:=#[t,t]})
 (B:Nat) (e:TypeId) (k bytes:Nat) (i:TypeInfo) (z:Value) (ht:P.underlying t=some (.slice e)) (hi:P.info? e=some i) (hz:i.zero=some z) (hsize:i.size=k) (hby:i.bytes=bytes) (hzs:z.cells.size=k) (hk:0<k)
 (v x:Value) (rows more:List (List Value)) (hs:a.eval s=v) (hy:a.eval y=x) (hu:∀cs∈rows,cs.length=k) (hum:∀cs∈more,cs.length=k) (h1:∀cs∈more,∀u∈cs,u.oneCell'=true) (ho:OwnP B w e k v rows) (hx:RowAt w k x more) (h63:rows.length+more.length<=maxLen) (hb:(rows.length+more.length)*bytes<=140737488355328) (hB:B<=w.heap.size)
 (h:∀v' w',Grew B e k w v (rows++more) v' w'->K v' w'):o.eff P a w K:=by
 obtain⟨v',w',hr,hg⟩:=sF (P:=P) w B t o.type e k bytes i z ht hi hz hsize hby hzs hk v x rows more hu hum h1 ho hx h63 hb hB;unfold Oper.eff execOp;simp only[hop,resolve,invoke,builtin,Sem.run_bind,Sem.run_pure,Result.andThen_ok,map_toArray,xB,map_nil,hs,hy,hr];exact h v' w' hg
theorem RowAt.single {b:Nat} {t:TypeId} {cs:List Value} (h:Blk w b cs.toArray t) (k cap:Nat):RowAt w k (.slice b 1 cap) [cs]:=by
 refine⟨_,_,rfl,by unfold maxLen;simp,λ_=>⟨b,0,rfl,h.lt.lt,λq c hq u x hu=>?_⟩⟩;rcases q with _|q
 .simp only[zH,zF]at hq;subst hq;rw[h.cell];simpa using hu
 simp at hq
theorem aLQ:∀(zs:List ByteArray),∀cs∈zs.map (λn=>[Value.string n]),cs.length=1:=by intro zs cs h;obtain⟨r,_,rfl⟩:=mem_map.1 h;rfl
theorem aVY:∀(zs:List ByteArray),∀cs∈zs.map (λn=>[Value.string n]),∀u∈cs,u.oneCell'=true:=by intro zs cs h u hu;obtain⟨r,_,rfl⟩:=mem_map.1 h;simp only[mem_cons,not_mem_nil,or_false]at hu;subst hu;rfl
def aJG {α:Type} (cells:α->List Value) (sl e m:Nat):Prop:=∀{w:World} {ops:Array Oper} {rest:List Oper} {o:Oper} {a:Act} {Q:Exit->Act->World->Prop} (hgd:o.guard=none) (s y:Operand)
 (hop:o.op=.call { callee:=.builtin .append,args:=#[s,y],argTypes:=#[sl,sl]}) (B:Nat) (v x:Value) (zs more:List α) (hs:a.eval s=v) (hy:a.eval y=x) (ho:OwnP B w e m v (zs.map cells)) (hx:RowAt w m x (more.map cells)) (hl:zs.length+more.length<=1000000000000) (hB:B<=w.heap.size)
 (h:∀v' w',Grew B e m w v ((zs++more).map cells) v' w'->wpList prog ops Q rest (a.put o.dst v') w'),wpList prog ops Q (o::rest) a w
theorem aCL {α:Type} {cells:α->List Value} {sl e m bytes:Nat} {z:Value} (hinf:(prog.info? e).map (λi=>(i.zero,i.size,i.bytes))=some (some z,m,bytes)) (ht:prog.underlying sl=some (.slice e)) (hc:z.cells.size=m) (hk:0<m) (hbb:bytes<=100) (hu:∀l:List α,∀cs∈l.map cells,cs.length=m) (h1r:∀l:List α,∀cs∈l.map cells,∀u∈cs,u.oneCell'=true):aJG cells sl e m:=by
 intro w ops rest o a Q hgd s y hop B v x zs more hs hy ho hx hl hB h;obtain⟨i,hi,hz,h1,h2⟩:=info_parts hinf;refine jJ w hgd s y sl hop B e m bytes i _ ht hi hz h1 h2 hc hk v x (zs.map cells) (more.map cells) hs hy (hu _) (hu _) (h1r _) ho hx ?_ ?_ hB ?_
 .rw[lM,lM];unfold maxLen;omega
 .rw[lM,lM];exact zD (Nat.mul_le_mul hl hbb) (by decide)
 intro v' w' hg;rw[<-yS]at hg;exact h v' w' hg
theorem sG:aJG PEnt.cells 66 97 2:=aCL aDD underlying66 rfl (by decide) (by decide) pC sB
theorem uP:aJG IRec.cells 22 68 4:=aCL vT underlying22 rfl (by decide) (by decide) gF pD
theorem mV:aJG PDesc.cells 23 95 3:=aCL aDE underlying23 rfl (by decide) (by decide) mS pS
theorem aVZ:aJG aL 24 3 1:=aCL aAB underlying24 rfl (by decide) (by decide) vC aLI
theorem aYG:aJG (λn:ByteArray=>[Value.string n]) 50 9 1:=aCL aSS underlying50 rfl (by decide) (by decide) aLQ aVY
end
section
variable {B k:Nat} {S:PSt} {e:TypeId} {mv ov v:Value} {rows:List (List Value)} {w w':World}
theorem OwnP.below (h:OwnP B w e k v rows) (hb:Bl w w'):OwnP B w' e k v rows:=h.keep (Keep.of_below hb (λ_=>False)) (λ_ _ h=>h)
theorem Grew.on {v':Value} {rows':List (List Value)} (h:Grew B e k w v rows v' w') (ho:OwnP B w e k v rows') (hB:B<=w.heap.size):Below B w w':=h.2.1.below hB (λi hi hg=>by have:=ho.ge hg;omega)
theorem OwnP.formL (h:OwnP B w e k v rows):∃a c,v=.slice a rows.length c:=by
 rcases h with⟨rfl,rfl⟩|⟨g,cap,arr,rfl,_⟩
 .exact⟨_,_,rfl⟩
 exact⟨_,_,rfl⟩
theorem StOwn.ins_form {iv:Value} (h:StOwn B w iv ov mv S) (h0:0<S.ins.length):∃bi cap,iv=.slice (some ⟨bi,0,none⟩) S.ins.length cap:=by
 obtain⟨_,_,is,h3,h4,_⟩:=h;rcases h3 with⟨_,h1⟩|⟨g,cap,arr,rfl,_⟩
 .rw[map_eq_nil_iff]at h1;rw[h1]at h4;simp at h4;omega
 exact⟨g,cap,by rw[lM,h4]⟩
theorem StOwn.ins_thaw {w1:World} {bi cap K:Nat} (h:StOwn B w (.slice bi S.ins.length cap) ov mv S) (hK:K<S.ins.length) (hb:Bl w w1):w1.frozen? ⟨bi,K*4+2,none⟩=false:=by
 obtain⟨_,_,is,h3,h4,_⟩:=h;have h3:=h3.below hb;rcases h3 with⟨h1,_⟩|⟨g,cap,arr,he,_,hbk,_⟩
 .cases h1
 simp only[zO,zF,yG]at he;obtain⟨⟨rfl,-,-⟩,-,-⟩:=he;exact hbk.frozen _
theorem aLS (B b:Nat) (S:PSt) (iv ov mv:Value) (dir num:Int) (name:ByteArray) (K:Nat) (x:PIn) (w:World) (hb:Blk w b #[iv,ov,mv] 26) (ho:StOwn B w iv ov mv S) (hB:B<=w.heap.size) (hwf:S.wf) (hns:name.size<=1000000000) (hat:bM S dir=K) (hx:S.ins[K]? =some x):
 Calls prog 122 #[.pointer b,dir,name,num] w λe w'=>e=.returned (.tuple #[])/\Below B w w'/\Keep (tR w) w w'/\StOwn B w' iv ov mv (S.ents K x (cQ (λe=>dX name e.name) ⟨name,num⟩ x.ents false [])):=by
 obtain⟨hKl,-⟩:=gI.1 hx;obtain⟨bi,cap,rfl⟩:=ho.ins_form (by omega);have a7:vB w 85 #[.agg #[.slice bi S.ins.length cap,ov,mv],.int .i64 dir] (.int .i64 (K:Int)):=λww hb=>by have:=aAS S _ ov mv dir ww (ho.read.below hb (zC _)) hwf.1;rw[hat]at this;exact this
 obtain⟨a,cap',e1,hai⟩:=ho.read.ins_at2;cases e1;obtain⟨bi',oi,ev,he,iI0,hoi,her,hci⟩:=hai K x hx;cases he;obtain⟨iI,-,-,x2,-⟩:=hci w (Below.refl _ _);rw[zM]at x2;have b4:=aC x2;have b5:=(hwf.2.2.2.1 x (mG hx)).2.1;obtain⟨ae,ce,rfl,hae⟩:=her.at_;rw[lM]at x2;obtain⟨iL,s0,s1,s2⟩:=gN hb;have a8:=ho.1.one;have a4:=ho.2.1.one;obtain⟨ao,co,rfl⟩:=ho.1.formL;obtain⟨am,cm,rfl⟩:=ho.2.1.formL;simp only[lM]at a7 s1 s2;have b8:(K:Int)<S.ins.length:=by omega
 have H:=eK ho hx hb;obtain⟨xn,xd,xe,xs⟩:=x;simp only at x2 hae b5 |-;obtain⟨R,hR⟩:∃R,cQ (λe=>dX name e.name) ⟨name,num⟩ xe false []=R:=⟨_,rfl⟩;rw[hR];have HR:=aC hR;have HA:=aC hae;have b2:∀w2,Bl w w2->BlockLt bi w2/\w2.cell? ⟨bi,K*4+2,none⟩=some (.slice ae xe.length ce):=by intro w2 h2;obtain⟨i2,-,-,y2,-⟩:=hci w2 h2;rw[zM,lM]at y2;exact⟨i2,y2⟩
 have a9:=aC b2;clear b2;clear ho hx hb her hai hoi hci hR hae a8 a4 hat;go_in;go_upto_region 0 with fail;refine qR ?_
 repeat(go_big_quiet_step ((with_reducible first|refine cI (a7 _ (bel _ _))|refine cJ (a7 _ (bel _ _)))))
 refine QN λp=>?_;go_wp2
 go_loopw[9,10,11] (λv9 v10 i wr=>∃(q:Nat) (d:Bool) (zs:List PEnt),i=.int .i64 q/\v10=.bool d/\q<=xe.length/\zs.length<=2*q/\OwnP w.heap.size wr 97 2 v9 (zs.map PEnt.cells)/\cQ (λe=>dX name e.name) ⟨name,num⟩ (xe.drop q) d zs=R/\Bl w wr) (λ_ _ i _=>(xe.length-intOf i).toNat)
 case atStart=>exact⟨0,false,[],rfl,rfl,by omega,by simp,.inl ⟨rfl,rfl⟩,HR.out,bel _ _⟩
 obtain⟨q,d,zs,rfl,rfl,hq,hzl,hO,hre,hbw⟩:=hrel;have iB:Bel w wr:=⟨hbw⟩;obtain⟨iI2,y2⟩:=a9.out wr hbw;obtain⟨va,vc,rfl⟩:=hO.formL;generalize hzn:(zs.map PEnt.cells).length=zn at hO |-;have HO:=bG hO hzn;clear hO hzn;by_cases hlt:q<xe.length
 .obtain⟨z,hz⟩:∃z,xe[q]? =some z:=⟨_,gE hlt⟩
  rw[qA _ _ _ q z d zs hz]at hre;obtain⟨be,oe,rfl,iE0,iE,hce⟩:=HA.out wr hbw q z.cells (by rw[gM,hz];rfl);have c0:=hce 0 _ rfl;have c1:=hce 1 _ rfl;rw[zN]at c0;have b0:(q:Int)<xe.length:=by omega
  have b3:∀w2,Bl w w2->BlockLt be w2/\w2.cell? ⟨be,oe+q*2,none⟩=some (.string z.name)/\w2.cell? ⟨be,oe+q*2+1,none⟩=some (.int .i64 z.num):=by intro w2 h2;obtain⟨be',oe',he,_,i2,hc⟩:=HA.out w2 h2 q z.cells (by rw[gM,hz];rfl);cases he;exact⟨i2,hc 0 _ rfl,hc 1 _ rfl⟩
  have b6:=aC b3;clear hce hz b3;rcases d with _|_
  .rw[zA (by decide)]at hre;have b1:∀ww,vR ww 81 #[.string name,.string z.name] (.bool (dX name z.name)):=λww=>aEM name z.name (by omega) ww
   generalize dX name z.name=t at hre b1;rcases t with _|_
   .rw[zA (by decide)]at hre;have a3:=aC hre;clear hre;go_wp2_with(first|(go_at_call 81;with_reducible refine aE (b1 _) λp=>?_)|(at_builtin;refine sG rfl (.tmp 51) (.tmp 59) rfl w.heap.size _ _ zs [z] rfl (by go_simp) (HO.out.1.below (bel wr _)) (RowAt.single (Blk.new_i _ _ _ _) 2 1) (by simp;omega) (bel w _).size ?_))
    intro v' w' hg;have a2:=hg.on (HO.out.1.below (bel wr _)) (bel w _).size;have a0:=(bel w _).trans a2;have a1:OwnP w.heap.size w' 97 2 v' ((zs++[z]).map PEnt.cells):=by have:=hg.1;simpa using this
    have H2:=bG a1 a0;clear hg a2 a1 a0;go_wp2;go_roundw
    case rel=>exact⟨q+1,false,_,by go_num,rfl,by omega,by simp;omega,H2.out.1,a3.out,H2.out.2⟩
    simp[intOf];omega
   rw[zB rfl]at hre;have a3:=aC hre;clear hre;go_wp2_with(first|(go_at_call 81;with_reducible refine aE (b1 _) λp=>?_)|(at_builtin;refine sG rfl (.tmp 45) (.tmp 49) rfl w.heap.size _ _ zs [⟨name,num⟩] rfl (by go_simp) (HO.out.1.below (bel wr _)) (RowAt.single (Blk.new_i _ _ _ _) 2 1) (by simp;omega) (bel w _).size ?_));intro v' w' hg;have a2:=hg.on (HO.out.1.below (bel wr _)) (bel w _).size;have a0:=(bel w _).trans a2;have a1:OwnP w.heap.size w' 97 2 v' ((zs++[(⟨name,num⟩:PEnt)]).map PEnt.cells):=by have:=hg.1;simpa using this
   have i2:Bel w w':=⟨a0⟩;have H2:=aC a1;obtain⟨iE2,d0,d1⟩:=b6.out w' a0;obtain⟨iI3,z2⟩:=a9.out w' a0;clear hg a2 a1 a0 c0 c1 iE y2 iI2;go_wp2_with(at_builtin;refine sG rfl (.tmp 51) (.tmp 59) rfl w.heap.size _ _ (zs++[(⟨name,num⟩:PEnt)]) [z] rfl (by go_simp) (H2.out.below (bel w' _)) (RowAt.single (Blk.new_i _ _ _ _) 2 1) (by simp;omega) (bel w _).size ?_);intro v' w'' hg;have a2:=hg.on (H2.out.below (bel w' _)) (bel w _).size;have a0:=(bel w _).trans a2;have a1:OwnP w.heap.size w'' 97 2 v' ((zs++[(⟨name,num⟩:PEnt)]++[z]).map PEnt.cells):=by have:=hg.1;simpa using this
   have H3:=bG a1 a0;clear hg a2 a1 a0;go_wp2;go_roundw
   case rel=>exact⟨q+1,true,_,by go_num,rfl,by omega,by simp;omega,H3.out.1,a3.out,H3.out.2⟩
   simp[intOf];omega
  rw[zB rfl]at hre;have a3:=aC hre;clear hre;go_wp2_with(at_builtin;refine sG rfl (.tmp 51) (.tmp 59) rfl w.heap.size _ _ zs [z] rfl (by go_simp) (HO.out.1.below (bel wr _)) (RowAt.single (Blk.new_i _ _ _ _) 2 1) (by simp;omega) (bel w _).size ?_);intro v' w' hg;have a2:=hg.on (HO.out.1.below (bel wr _)) (bel w _).size;have a0:=(bel w _).trans a2;have a1:OwnP w.heap.size w' 97 2 v' ((zs++[z]).map PEnt.cells):=by have:=hg.1;simpa using this
  have H2:=bG a1 a0;clear hg a2 a1 a0;go_wp2;go_roundw
  case rel=>exact⟨q+1,true,_,by go_num,rfl,by omega,by simp;omega,H2.out.1,a3.out,H2.out.2⟩
  simp[intOf];omega
 rw[xN _ _ _ q d zs hlt]at hre;have b0:¬(q:Int)<xe.length:=by omega
 have a5:∀(w1:World) (v:Value),OwnP w.heap.size w1 97 2 v (R.map PEnt.cells)->Bl w w1->Below B w (w1.setCell ⟨bi,K*4+2,none⟩ v)/\Keep (tR w) w (w1.setCell ⟨bi,K*4+2,none⟩ v)/\StOwn B (w1.setCell ⟨bi,K*4+2,none⟩ v) (.slice bi S.ins.length cap) (.slice ao (S.op.map PDesc.cells).length co) (.slice am (S.made.map aL).length cm) (S.ents K ⟨xn,xd,xe,xs⟩ R):=by intro w1 v h1 h2;obtain⟨ho,hx,hb⟩:=H.out;obtain⟨r1,r2,r3⟩:=ho.setEnts hx b4.out (h1.mono hB) (Keep.of_below h2 _) (λk hk=>.inr (h1.ge hk)) hB;exact⟨r2,r3,r1⟩
 have a6:=aC a5;clear a5;rcases d with _|_
 .rw[zA (by decide)]at hre;have a3:=aC hre;clear hre;go_wp2_with(at_builtin;refine sG rfl (.tmp 63) (.tmp 67) rfl w.heap.size _ _ zs [⟨name,num⟩] rfl (by go_simp) (HO.out.1.below (bel wr _)) (RowAt.single (Blk.new_i _ _ _ _) 2 1) (by simp;omega) (bel w _).size ?_)
  intro v' w' hg;have a2:=hg.on (HO.out.1.below (bel wr _)) (bel w _).size;have a0:=(bel w _).trans a2;have i2:Bel w w':=⟨a0⟩;obtain⟨iI3,z2⟩:=a9.out w' a0;have a1:OwnP w.heap.size w' 97 2 v' ((zs++[(⟨name,num⟩:PEnt)]).map PEnt.cells):=by have:=hg.1;simpa using this
  rw[a3.out]at a1;have hf:=a6.out w' v' a1 a0;obtain⟨va2,vc2,rfl⟩:=a1.formL;generalize(R.map PEnt.cells).length=zn2 at hf |-;have HF:=aC hf;have b7:=H.out.1.ins_thaw hKl a0;clear hg a2 a1 a0 hf;go_wp2;exact xE (v:=.tuple #[]) (by simp[results,go_sem]) rfl ⟨rfl,by have:=HF.out;first|exact this|(simp only[lM]at this;exact this)⟩
 rw[zB rfl]at hre;subst hre;have hf:=a6.out wr _ HO.out.1 hbw;have HF:=aC hf;have b7:=H.out.1.ins_thaw hKl hbw;clear hf;go_wp2;exact xE (v:=.tuple #[]) (by simp[results,go_sem]) rfl ⟨rfl,by have:=HF.out;first|exact this|(simp only[lM]at this;exact this)⟩
end
def p1 (c:UInt8):ByteArray:=⟨#[47,c]⟩
def n1 (c:UInt8):ByteArray:=⟨#[c]⟩
theorem aJM (b:Int) (but:ByteArray) (es:List PEnt) (q:Nat) (e:PEnt) (a:Int) (h:es[q]? =some e):eD b but (es.drop q) a=eD b but (es.drop (q+1)) (if (!(e.name.toList==but.toList)&&aZ e.name==b)=true then a+1 else a):=by obtain⟨hl,rfl⟩:=gI.1 h;rw[yH hl,eD]
theorem aOS (b:Int) (but:ByteArray) (es:List PEnt) (q:Nat) (a:Int) (h:¬q<es.length):eD b but (es.drop q) a=a:=by rw[zS (by omega),eD]
theorem tU (S:PSt) (iv ov mv:Value) (dir:Int) (name but:ByteArray) (K:Nat) (x:PIn) (w:World) (h:StRead w iv ov mv S) (hwf:S.wf) (hat:bM S dir=K) (hx:S.ins[K]? =some x) (hns:name.size<=1000000000) (hes:∀e∈x.ents,e.name.size<=1000000000):
 vR w 121 #[.agg #[iv,ov,mv],.int .i64 dir,.string name,.string but] (.bool (decide (4<=eD (aZ name) but x.ents 0))):=by
 have a8:=uX h hwf.1 hat;obtain⟨ai,ni,ci,ao,no,co,am,nm',cm,rfl,rfl,rfl⟩:=h.slices;obtain⟨a,cap',e1,hai⟩:=h.ins_at2;cases e1;obtain⟨bi,oi,ev,rfl,iI0,hoi,her,hci⟩:=hai K x hx;have a4:=aC hci;obtain⟨hxl,-⟩:=gI.1 hx;have b2:(K:Int)<S.ins.length:=by omega
 have b3:=(hwf.2.2.2.1 x (mG hx)).2.1;obtain⟨ae,ce,rfl,hae⟩:=her.at_;rw[lM]at a4;have HA:=aC hae;obtain⟨R,hR⟩:∃R,eD (aZ name) but x.ents 0=R:=⟨_,rfl⟩;rw[hR];have HR:=aC hR;have a9:=aC hes;obtain⟨xn,xd,xe,xs⟩:=x;simp only at a4 HA HR a9 b3;obtain⟨iI,x0,x1,x2,x3⟩:=a4.out w (Below.refl _ _);clear h hai her hoi hci hx hwf hae hR hes;unfold vR;go_in;go_upto_region 2 with fail;go_cut [10] (λv10 wx=>∃g,v10=.pointer (some ⟨g,0,none⟩)/\Bl w wx/\Blk wx g #[xn,xd,.slice ae xe.length ce,xs] 68)
 case first=>
  go_region_held3 (λw'=>w'.cell? w.heap.size=some (.slice (some ⟨bi,oi,none⟩) S.ins.length ci)/\w'.cell? ⟨w.heap.size,1,none⟩=some (.slice ao no co)/\w'.cell? ⟨w.heap.size,2,none⟩=some (.slice am nm' cm)/\w'.cell? ⟨bi,oi+K*4,none⟩=some (.int .i64 xn)/\w'.cell? ⟨bi,oi+K*4+1,none⟩=some (.bool xd)/\w'.cell? ⟨bi,oi+K*4+2,none⟩=some (.slice ae xe.length ce)/\w'.cell? ⟨bi,oi+K*4+3,none⟩=some (.string xs))
   (first|(try dsimp only)<;>(repeat' apply And.intro)<;>go_simp)
   (first|(go_at_call 85;refine aE (a8 _ (bel _ _)) λp=>?_))
  all_goals go_wp2_with fail
  all_goals go_meet
  all_goals(refine ⟨_,rfl,bel _ _,?_⟩)
  all_goals(repeat (first|exact Blk.new_i _ _ _ _|refine Blk.alloc ?_ _|refine Blk.junk ?_ _|refine Blk.drew ?_))
 obtain⟨g,rfl,hbc,hG⟩:=hcut;have HG:=bG hG hbc;clear x0 x1 x2 x3 iI hG hbc a8;go_wp2
 go_loopw[9,11] (λv9 i wr=>∃(q:Nat) (a:Int),i=.int .i64 q/\v9=.int .i64 a/\q<=xe.length/\0<=a/\a<=q/\eD (aZ name) but (xe.drop q) a=R/\Bl w wr/\Blk wr g #[xn,xd,.slice ae xe.length ce,xs] 68) (λ_ i _=>(xe.length-intOf i).toNat)
 case atStart=>exact⟨0,0,rfl,rfl,by omega,by omega,by omega,HR.out,HG.out.2,HG.out.1⟩
 obtain⟨q,a,rfl,rfl,hq,ha0,haq,a0,hb,hG⟩:=hrel;have iB:Bel w wr:=⟨hb⟩;have iG:=hG.lt;have g2:=hG.cell 2;simp at g2;have a5:=aC hG;clear hG;by_cases hlt:q<xe.length
 .obtain⟨z,hz⟩:∃z,xe[q]? =some z:=⟨_,gE hlt⟩
  rw[aJM _ _ _ q z a hz]at a0;obtain⟨be,oe,rfl,iE0,iE,hce⟩:=HA.out wr hb q z.cells (by rw[gM,hz];rfl);have c0:=hce 0 _ rfl;rw[zN]at c0;have a6:(q:Int)<xe.length:=by omega
  have b0:=a9.out z (mG hz);have a3:∀ww,vR ww 87 #[.string z.name] (.int .i64 (aZ z.name)):=λww=>sK z.name b0 ww;have a1:∀ww,vR ww 87 #[.string name] (.int .i64 (aZ name)):=λww=>sK name hns ww;generalize hzn:z.name=zn at *;generalize hb1:(zn.toList==but.toList)=b1 at a0;generalize aZ zn=k1 at a0 a3;generalize aZ name=k2 at a0 a1;have w1:IntKind.i64.wrap (a+1)=a+1:=I64.wrap ⟨by omega,by omega⟩;clear hce hz b0;rcases b1 with _|_
  .by_cases hk:k1=k2
   .have a7:(k1==k2)=true:=by simpa using hk
    rw[a7]at a0;have a0:eD k2 but (xe.drop (q+1)) (a+1)=R:=a0;have a2:=aC a0;clear a0 hk;go_wp2_with(first|(go_at_call 87;with_reducible refine aE (a3 _) λp=>?_)|(go_at_call 87;with_reducible refine aE (a1 _) λp=>?_));go_roundw
    case rel=>exact⟨q+1,a+1,by go_num,by go_num,by omega,by omega,by omega,a2.out,bel _ _,(Keep.of_below (bel wr _) (λ_=>False)).blk a5.out (λh=>h)⟩
    simp[intOf];omega
   have a7:(k1==k2)=false:=by simpa using hk
   rw[a7]at a0;have a0:eD k2 but (xe.drop (q+1)) a=R:=a0;have a2:=aC a0;clear a0;go_wp2_with(first|(go_at_call 87;with_reducible refine aE (a3 _) λp=>?_)|(go_at_call 87;with_reducible refine aE (a1 _) λp=>?_));go_roundw
   case rel=>exact⟨q+1,a,by go_num,rfl,by omega,by omega,by omega,a2.out,bel _ _,(Keep.of_below (bel wr _) (λ_=>False)).blk a5.out (λh=>h)⟩
   simp[intOf];omega
  have a0:eD k2 but (xe.drop (q+1)) a=R:=a0;have a2:=aC a0;clear a0;go_wp2_with(first|(go_at_call 87;with_reducible refine aE (a3 _) λp=>?_)|(go_at_call 87;with_reducible refine aE (a1 _) λp=>?_));go_roundw
  case rel=>exact⟨q+1,a,by go_num,rfl,by omega,by omega,by omega,a2.out,bel _ _,(Keep.of_below (bel wr _) (λ_=>False)).blk a5.out (λh=>h)⟩
  simp[intOf];omega
 rw[aOS _ _ _ q a hlt]at a0;subst a0;have a6:¬(q:Int)<xe.length:=by omega
 go_wp2;go_ret;exact⟨rfl,bel _ _⟩
section
def aQ (code fd num:Int):Value:=.agg #[code,fd,num,false,.string ⟨#[]⟩,.slice none 0 0]
theorem aJN (k:Int) (w:World):vR w 92 #[.int .i64 k] (aQ k 0 0):=by unfold vR;go_in;go_wp2;exact xD (v:=aQ k 0 0) (by simp[results,Tryz.results92,go_sem,aQ]) rfl ⟨rfl,bel _ _⟩
variable {B:Nat} {S:PSt} {iv mv ov:Value} {w:World}
theorem StOwn.on {w1:World} (h:StOwn B w iv ov mv S) (hb:Bl w w1):StOwn B w1 iv ov mv S:=h.keep (Keep.of_below hb (λ_=>False)) (λ_ h=>h.elim)
theorem StOwn.setOp {ov':Value} {zs:List PDesc} (h:StOwn B w iv ov mv S) (ho:OwnP B w 95 3 ov' (zs.map PDesc.cells)):StOwn B w iv ov' mv { S with op:=zs}:=⟨ho,h.2⟩
def fK (core fd:Int) (o:PDesc):Bool:=decide (core<o.core)||((o.core==core)&&decide (fd<o.fd))
theorem aWB (B b:Nat) (S:PSt) (iv ov mv:Value) (core fd num:Int) (w:World) (hb:Blk w b #[iv,ov,mv] 26) (ho:StOwn B w iv ov mv S) (hB:B<=w.heap.size) (hBb:B<=b) (hol:S.op.length<=1000000000):
 Calls prog 123 #[.pointer b,core,fd,num] w λe w'=>e=.returned (.tuple #[])/\Below B w w'/\Keep (λg=>g=b) w w'/\∃ov',Blk w' b #[iv,ov',mv] 26/\StOwn B w' iv ov' mv { S with op:=cQ (fK core fd) ⟨core,fd,num⟩ S.op false []}:=by
 have b3:=ho.2.1.one;obtain⟨ai,ni,ci,ao,no,co,am,nm',cm,rfl,rfl,rfl⟩:=ho.read.slices;obtain⟨a,cap',e1,hat⟩:=ho.read.1.at_;rw[lM]at e1;cases e1;have HA:=aC hat;obtain⟨R,hR⟩:∃R,cQ (fK core fd) ⟨core,fd,num⟩ S.op false []=R:=⟨_,rfl⟩;rw[hR];have HR:=aC hR;have b6:∀w2,Bl w w2->BlockLt b w2/\w2.cell? ⟨b,1,none⟩=some (.slice ao S.op.length co)/\w2.frozen? ⟨b,1,none⟩=false:=by intro w2 h2;have h3:=(Keep.of_below h2 (λ_=>False)).blk hb (λh=>h);have c1:=h3.cell 1;simp at c1;exact⟨h3.lt,c1,h3.frozen 1⟩
 have b7:=aC b6;have HH:=bG hb ho;clear hat hR b6 ho hb b3;go_in;go_wp2
 go_loopw[9,10,11] (λv9 v10 i wr=>∃(q:Nat) (d:Bool) (zs:List PDesc),i=.int .i64 q/\v10=.bool d/\q<=S.op.length/\zs.length<=2*q/\OwnP (w.heap.size+1) wr 95 3 v9 (zs.map PDesc.cells)/\cQ (fK core fd) ⟨core,fd,num⟩ (S.op.drop q) d zs=R/\Bl w wr/\Blk wr w.heap.size #[core,fd,num] 95) (λ_ _ i _=>(S.op.length-intOf i).toNat)
 case atStart=>exact⟨0,false,[],rfl,rfl,by omega,by simp,.inl ⟨rfl,rfl⟩,HR.out,bel _ _,Blk.new w _ 95⟩
 obtain⟨q,d,zs,rfl,rfl,hq,hzl,hO,hre,hbw,hd8⟩:=hrel;have iB:Bel w wr:=⟨hbw⟩;have iD:=hd8.lt;have a4:w.heap.size+1<=wr.heap.size:=iD.lt;obtain⟨iL,y1,yf⟩:=b7.out wr hbw;obtain⟨-,e0,e1,e2⟩:=gN hd8;obtain⟨va,vc,rfl⟩:=hO.formL;generalize hzn:(zs.map PDesc.cells).length=zn at hO |-;have HO:=eK hO hzn hd8;clear hO hzn hd8;by_cases hlt:q<S.op.length
 .obtain ⟨z,hz⟩:∃z,S.op[q]? =some z:=⟨_,gE hlt⟩
  rw[qA _ _ _ q z d zs hz]at hre;obtain⟨be,oe,rfl,iE0,iE,hce⟩:=HA.out wr hbw q z.cells (by rw[gM,hz];rfl);have c0:=hce 0 _ rfl;have c1:=hce 1 _ rfl;have c2:=hce 2 _ rfl;rw[zN]at c0;have b4:(q:Int)<S.op.length:=by omega
  clear hce hz;obtain⟨zc,zf,zm⟩:=z;simp only at c0 c1 c2;rcases d with _|_
  .rw [zA (by decide)]at hre;by_cases hA:core<zc
   .have ha:fK core fd ⟨zc,zf,zm⟩=true:=by simp[fK,hA]
    rw[ha,zB rfl]at hre;have a5:=aC hre;have c3:∀w2,Bl w w2->BlockLt be w2:=by intro w2 h2;exact⟨zR iE0.lt h2.size⟩
    clear hre;go_wp2_with(at_builtin;refine mV rfl (.tmp 53) (.tmp 55) rfl (w.heap.size+1) _ _ zs [⟨core,fd,num⟩] rfl (by go_simp) (HO.out.1.below (bel wr _)) (RowAt.single (Blk.new_i _ _ _ _) 3 1) (by simp;omega) (zD a4 (bel wr _).size) ?_);intro v' w' hg;have a0:=hg.on (HO.out.1.below (bel wr _)) (zD a4 (bel wr _).size);have a2:=(bel w _).trans (a0.mono (Nat.le_succ _));have a1:OwnP (w.heap.size+1) w' 95 3 v' ((zs++[(⟨core,fd,num⟩:PDesc)]).map PDesc.cells):=by have:=hg.1;simpa using this
    have a3:=hg.2.1.blk ((Keep.of_below (bel wr _) (λ_=>False)).blk HO.out.2.2 (λh=>h)) (λh=>by have:=HO.out.1.ge h;omega);have a6:=hg.2.1.blk (Blk.alloc (Blk.new_i wr #[zc,zf,zm] 95 wr.heap.size) _) (λh=>by have:=HO.out.1.lt h;omega);have i2:Bel w w':=⟨a2⟩;have b5:=a3.lt;obtain⟨iZ2,f0,f1,f2⟩:=gN a6;have a7:w.heap.size+1<=w'.heap.size:=b5.lt;have H2:=bG a1 a3;clear hg a0 a1 a3 a6 c0 c1 c2 iE e0 e1 e2 iD y1 yf iL;go_wp2_with(at_builtin;refine mV rfl (.tmp 57) (.tmp 59) rfl (w.heap.size+1) _ _ (zs++[(⟨core,fd,num⟩:PDesc)]) [⟨zc,zf,zm⟩] rfl (by go_simp) (H2.out.1.below (bel w' _)) (RowAt.single (Blk.new_i _ _ _ _) 3 1) (by simp;omega) (zD a7 (bel w' _).size) ?_);intro v2 w2 hg;have a0:=hg.on (H2.out.1.below (bel w' _)) (zD a7 (bel w' _).size);have a8:=(bel w _).trans (a0.mono (Nat.le_succ _));have a9:OwnP (w.heap.size+1) w2 95 3 v2 ((zs++[(⟨core,fd,num⟩:PDesc)]++[(⟨zc,zf,zm⟩:PDesc)]).map PDesc.cells):=by have:=hg.1;simpa using this
    have b0:=hg.2.1.blk ((Keep.of_below (bel w' _) (λ_=>False)).blk H2.out.2 (λh=>h)) (λh=>by have:=H2.out.1.ge h;omega);have H3:=eK a9 a8 b0;clear hg a0 a9 a8 b0;go_wp2;go_roundw
    case rel=>exact⟨q+1,true,_,by go_num,rfl,by omega,by simp;omega,H3.out.1,a5.out,H3.out.2.1,H3.out.2.2⟩
    simp[intOf];omega
   by_cases hC:zc=core
   .subst hC;by_cases hF:fd<zf
    .have ha:fK zc fd ⟨zc,zf,zm⟩=true:=by simp[fK,hF]
     rw[ha,zB rfl]at hre;have a5:=aC hre;have c3:∀w2,Bl w w2->BlockLt be w2:=by intro w2 h2;exact⟨zR iE0.lt h2.size⟩
     clear hre;go_wp2_with(at_builtin;refine mV rfl (.tmp 53) (.tmp 55) rfl (w.heap.size+1) _ _ zs [⟨zc,fd,num⟩] rfl (by go_simp) (HO.out.1.below (bel wr _)) (RowAt.single (Blk.new_i _ _ _ _) 3 1) (by simp;omega) (zD a4 (bel wr _).size) ?_);intro v' w' hg;have a0:=hg.on (HO.out.1.below (bel wr _)) (zD a4 (bel wr _).size);have a2:=(bel w _).trans (a0.mono (Nat.le_succ _));have a1:OwnP (w.heap.size+1) w' 95 3 v' ((zs++[(⟨zc,fd,num⟩:PDesc)]).map PDesc.cells):=by have:=hg.1;simpa using this
     have a3:=hg.2.1.blk ((Keep.of_below (bel wr _) (λ_=>False)).blk HO.out.2.2 (λh=>h)) (λh=>by have:=HO.out.1.ge h;omega);have a6:=hg.2.1.blk (Blk.alloc (Blk.new_i wr #[zc,zf,zm] 95 wr.heap.size) _) (λh=>by have:=HO.out.1.lt h;omega);have i2:Bel w w':=⟨a2⟩;have b5:=a3.lt;obtain⟨iZ2,f0,f1,f2⟩:=gN a6;have a7:w.heap.size+1<=w'.heap.size:=b5.lt;have H2:=bG a1 a3;clear hg a0 a1 a3 a6 c0 c1 c2 iE e0 e1 e2 iD y1 yf iL;go_wp2_with(at_builtin;refine mV rfl (.tmp 57) (.tmp 59) rfl (w.heap.size+1) _ _ (zs++[(⟨zc,fd,num⟩:PDesc)]) [⟨zc,zf,zm⟩] rfl (by go_simp) (H2.out.1.below (bel w' _)) (RowAt.single (Blk.new_i _ _ _ _) 3 1) (by simp;omega) (zD a7 (bel w' _).size) ?_);intro v2 w2 hg;have a0:=hg.on (H2.out.1.below (bel w' _)) (zD a7 (bel w' _).size);have a8:=(bel w _).trans (a0.mono (Nat.le_succ _));have a9:OwnP (w.heap.size+1) w2 95 3 v2 ((zs++[(⟨zc,fd,num⟩:PDesc)]++[(⟨zc,zf,zm⟩:PDesc)]).map PDesc.cells):=by have:=hg.1;simpa using this
     have b0:=hg.2.1.blk ((Keep.of_below (bel w' _) (λ_=>False)).blk H2.out.2 (λh=>h)) (λh=>by have:=H2.out.1.ge h;omega);have H3:=eK a9 a8 b0;clear hg a0 a9 a8 b0;go_wp2;go_roundw
     case rel=>exact⟨q+1,true,_,by go_num,rfl,by omega,by simp;omega,H3.out.1,a5.out,H3.out.2.1,H3.out.2.2⟩
     simp[intOf];omega
    have ha:fK zc fd ⟨zc,zf,zm⟩=false:=by simp[fK,hF]
    rw[ha,zA (by decide)]at hre;have a5:=aC hre;clear hre;go_wp2_with(at_builtin;refine mV rfl (.tmp 57) (.tmp 59) rfl (w.heap.size+1) _ _ zs [⟨zc,zf,zm⟩] rfl (by go_simp) (HO.out.1.below (bel wr _)) (RowAt.single (Blk.new_i _ _ _ _) 3 1) (by simp;omega) (zD a4 (bel wr _).size) ?_);intro v' w' hg;have a0:=hg.on (HO.out.1.below (bel wr _)) (zD a4 (bel wr _).size);have a2:=(bel w _).trans (a0.mono (Nat.le_succ _));have a1:OwnP (w.heap.size+1) w' 95 3 v' ((zs++[(⟨zc,zf,zm⟩:PDesc)]).map PDesc.cells):=by have:=hg.1;simpa using this
    have a3:=hg.2.1.blk ((Keep.of_below (bel wr _) (λ_=>False)).blk HO.out.2.2 (λh=>h)) (λh=>by have:=HO.out.1.ge h;omega);have H2:=eK a1 a2 a3;clear hg a0 a1 a2 a3;go_wp2;go_roundw
    case rel=>exact⟨q+1,false,_,by go_num,rfl,by omega,by simp;omega,H2.out.1,a5.out,H2.out.2.1,H2.out.2.2⟩
    simp[intOf];omega
   have c4:(zc==core)=false:=by simpa using hC
   have ha:fK core fd ⟨zc,zf,zm⟩=false:=by simp[fK,hA,hC]
   rw[ha,zA (by decide)]at hre;have a5:=aC hre;clear hre;go_wp2_with(at_builtin;refine mV rfl (.tmp 57) (.tmp 59) rfl (w.heap.size+1) _ _ zs [⟨zc,zf,zm⟩] rfl (by go_simp) (HO.out.1.below (bel wr _)) (RowAt.single (Blk.new_i _ _ _ _) 3 1) (by simp;omega) (zD a4 (bel wr _).size) ?_);intro v' w' hg;have a0:=hg.on (HO.out.1.below (bel wr _)) (zD a4 (bel wr _).size);have a2:=(bel w _).trans (a0.mono (Nat.le_succ _));have a1:OwnP (w.heap.size+1) w' 95 3 v' ((zs++[(⟨zc,zf,zm⟩:PDesc)]).map PDesc.cells):=by have:=hg.1;simpa using this
   have a3:=hg.2.1.blk ((Keep.of_below (bel wr _) (λ_=>False)).blk HO.out.2.2 (λh=>h)) (λh=>by have:=HO.out.1.ge h;omega);have H2:=eK a1 a2 a3;clear hg a0 a1 a2 a3;go_wp2;go_roundw
   case rel=>exact⟨q+1,false,_,by go_num,rfl,by omega,by simp;omega,H2.out.1,a5.out,H2.out.2.1,H2.out.2.2⟩
   simp[intOf];omega
  rw[zB rfl]at hre;have a5:=aC hre;clear hre;go_wp2_with(at_builtin;refine mV rfl (.tmp 57) (.tmp 59) rfl (w.heap.size+1) _ _ zs [⟨zc,zf,zm⟩] rfl (by go_simp) (HO.out.1.below (bel wr _)) (RowAt.single (Blk.new_i _ _ _ _) 3 1) (by simp;omega) (zD a4 (bel wr _).size) ?_);intro v' w' hg;have a0:=hg.on (HO.out.1.below (bel wr _)) (zD a4 (bel wr _).size);have a2:=(bel w _).trans (a0.mono (Nat.le_succ _));have a1:OwnP (w.heap.size+1) w' 95 3 v' ((zs++[(⟨zc,zf,zm⟩:PDesc)]).map PDesc.cells):=by have:=hg.1;simpa using this
  have a3:=hg.2.1.blk ((Keep.of_below (bel wr _) (λ_=>False)).blk HO.out.2.2 (λh=>h)) (λh=>by have:=HO.out.1.ge h;omega);have H2:=eK a1 a2 a3;clear hg a0 a1 a2 a3;go_wp2;go_roundw
  case rel=>exact⟨q+1,true,_,by go_num,rfl,by omega,by simp;omega,H2.out.1,a5.out,H2.out.2.1,H2.out.2.2⟩
  simp[intOf];omega
 rw[xN _ _ _ q d zs hlt]at hre;have b4:¬(q:Int)<S.op.length:=by omega
 have b1:∀(w1:World) (v:Value),OwnP (w.heap.size+1) w1 95 3 v (R.map PDesc.cells)->Bl w w1->Below B w (w1.setCell ⟨b,1,none⟩ v)/\Keep (λg=>g=b) w (w1.setCell ⟨b,1,none⟩ v)/\∃ov',Blk (w1.setCell ⟨b,1,none⟩ v) b #[.slice ai ni ci,ov',.slice am nm' cm] 26/\StOwn B (w1.setCell ⟨b,1,none⟩ v) (.slice ai ni ci) ov' (.slice am nm' cm) { S with op:=R}:=by intro w1 v h1 h2;obtain⟨hb,ho⟩:=HH.out;have b8:=(Keep.of_below h2 (λ_=>False)).blk hb (λh=>h);have hK:Keep (λg=>g=b) w1 (w1.setCell ⟨b,1,none⟩ v):=Keep.setCell (S:=λg=>g=b) (p:=⟨b,1,none⟩) (Keep.refl _ _) (.inl rfl) _;have b9:Keep (λg=>g=b) w (w1.setCell ⟨b,1,none⟩ v):=(Keep.of_below h2 (λg=>g=b)).trans hK (λ_ _ h=>h);refine⟨b9.below hB (λi hi h=>by omega),b9,v,b8.set_ 1 v,?_⟩;have h3:=(ho.on h2).setOp (h1.mono (by omega));exact h3.keep hK (λg hg=>by rw[hg];exact⟨_,26,b8,by decide,by decide,by decide,by decide⟩)
 have b2:=aC b1;clear b1;rcases d with _|_
 .rw[zA (by decide)]at hre;have a5:=aC hre;clear hre;go_wp2_with(at_builtin;refine mV rfl (.tmp 63) (.tmp 65) rfl (w.heap.size+1) _ _ zs [⟨core,fd,num⟩] rfl (by go_simp) (HO.out.1.below (bel wr _)) (RowAt.single (Blk.new_i _ _ _ _) 3 1) (by simp;omega) (zD a4 (bel wr _).size) ?_)
  intro v' w' hg;have a0:=hg.on (HO.out.1.below (bel wr _)) (zD a4 (bel wr _).size);have a2:=(bel w _).trans (a0.mono (Nat.le_succ _));have i2:Bel w w':=⟨a2⟩;obtain⟨iL2,z1,zf1⟩:=b7.out w' a2;have a1:OwnP (w.heap.size+1) w' 95 3 v' ((zs++[(⟨core,fd,num⟩:PDesc)]).map PDesc.cells):=by have:=hg.1;simpa using this
  rw[a5.out]at a1;have hf:=b2.out w' v' a1 a2;obtain⟨va2,vc2,rfl⟩:=a1.formL;generalize(R.map PDesc.cells).length=zn2 at hf |-;have HF:=aC hf;clear hg a0 a1 a2 hf y1 yf iL e0 e1 e2 iD;go_wp2;exact xE (v:=.tuple #[]) (by simp[results,go_sem]) rfl ⟨rfl,HF.out⟩
 rw[zB rfl]at hre;subst hre;have hf:=b2.out wr _ HO.out.1 hbw;have HF:=aC hf;clear hf;go_wp2;exact xE (v:=.tuple #[]) (by simp[results,go_sem]) rfl ⟨rfl,HF.out⟩
end
end Go.Proofs.YtmkapobnfigedaaGreatDoor
