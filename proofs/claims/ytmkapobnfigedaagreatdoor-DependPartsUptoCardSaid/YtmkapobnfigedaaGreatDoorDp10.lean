/- A part of a proof of a law. Conditions: none. -/
import Derived.Test.YtmkapobnfigedaaGreatDoorDp09
import Derived.Test.YtmkapobnfigedaaGreatDoorDp08
set_option linter.unusedVariables false
set_option linter.unusedSimpArgs false
set_option maxRecDepth 100000
set_option maxHeartbeats 40000000
namespace Go.Proofs.YtmkapobnfigedaaGreatDoor
open Go.Proofs.Tryz List Go.RowKit
def dQ (s:ByteArray) (p:Nat):Int:=if h:p<s.size then((s[p]'h).toNat:Int)else 0
theorem qK {s:ByteArray} {p:Nat} (h:p<s.size):dQ s p=((s[p]'h).toNat:Int):=by simp[dQ,h]
theorem lZ (s:ByteArray) (p:Nat):0<=dQ s p/\dQ s p<256:=by
 unfold dQ;split
 .rename_i h
  have:(s[p]'h).toNat<256:=UInt8.toNat_lt _;omega
 omega
def fS (s:ByteArray) (p:Nat):Int:=if p<s.size then(if dQ s p<128 then -1 else if 191<dQ s p then -1 else dQ s p-128)else -1
theorem aFB (s:ByteArray) (p:Nat) (w:World):
 vR w 166 #[.string s,.int .i64 p] (.int .i64 (fS s p)):=by
 generalize hR:fS s p=R;have HR:=aC hR;clear hR;by_cases hp:p<s.size
 .have a1:¬(s.size:Int)<=p:=by omega
  have hw:=qK hp;have hb:0<=dQ s p/\dQ s p<256:=lZ s p;have a0:(if dQ s p<128 then -1 else if 191<dQ s p then -1 else dQ s p-128)=R:=by rw[<-HR.out];simp[fS,hp]
  clear HR;rw[hw]at a0 hb;clear hw;by_cases h1:((s[p].toNat:Nat):Int)<128
  .rw[zB h1]at a0;subst a0
   unfold vR;go_in;go_wp2;go_ret;exact gAC
  rw[zA h1]at a0;by_cases h2:(191:Int)<((s[p].toNat:Nat):Int)
  .rw[zB h2]at a0;subst a0
   unfold vR;go_in;go_wp2;go_ret;exact gAC
  rw[zA h2]at a0;subst a0;unfold vR;go_in;go_wp2;go_ret;refine⟨rfl,bel _ _⟩
 have a1:(s.size:Int)<=p:=by omega
 have a0:-1=R:=by rw[<-HR.out];simp[fS,hp]
 subst a0;unfold vR;go_in;go_wp2;go_ret;exact gAC
def bS (c a b d:Int):Int × Int:=
 if c<128 then(c,1)
 else if 194<=c/\c<=223/\0<=a then((c-192)*64+a,2)
 else if 224<=c/\c<=239/\0<=a/\0<=b then
  (if 2048<=(c-224)*4096+a*64+b/\((c-224)*4096+a*64+b<55296\/57343<(c-224)*4096+a*64+b)then((c-224)*4096+a*64+b,3)else(65533,0))
 else if 240<=c/\c<=244/\0<=a/\0<=b/\0<=d then
  (if 65536<=(c-240)*262144+a*4096+b*64+d/\(c-240)*262144+a*4096+b*64+d<=1114111 then((c-240)*262144+a*4096+b*64+d,4)else(65533,0))
 else(65533,0)
def cD (s:ByteArray) (p:Nat):Int × Int:=bS (dQ s p) (fS s (p+1)) (fS s (p+2)) (fS s (p+3))
theorem fJ (s:ByteArray) (p:Nat):-1<=fS s p/\fS s p<=63:=by
 have:=lZ s p;unfold fS;split
 .split
  .omega
  split<;>omega
 omega
theorem aUQ (s:ByteArray) (p:Nat) (hp:p<s.size) (hs:s.size<=1000000000000) (w:World):
 vR w 120 #[.string s,.int .i64 p] (.tuple #[.int .i64 (cD s p).1,.int .i64 (cD s p).2]):=by
 obtain⟨R,hR⟩:=gAB (cD s p);rw[hR];unfold cD at hR;rw[qK hp]at hR;have a4:∀ww,vR ww 166 #[.string s,.int .i64 ((p:Int)+1)] (.int .i64 (fS s (p+1))):=λww=>by simpa using aFB s (p+1) ww
 have a5:∀ww,vR ww 166 #[.string s,.int .i64 ((p:Int)+2)] (.int .i64 (fS s (p+2))):=λww=>by simpa using aFB s (p+2) ww
 have a6:∀ww,vR ww 166 #[.string s,.int .i64 ((p:Int)+3)] (.int .i64 (fS s (p+3))):=λww=>by simpa using aFB s (p+3) ww
 have ba:=fJ s (p+1);have bb:=fJ s (p+2);have bd:=fJ s (p+3);generalize fS s (p+1)=a at hR a4 ba;generalize fS s (p+2)=b at hR a5 bb;generalize fS s (p+3)=d at hR a6 bd;have w1:IntKind.i64.wrap ((p:Int)+1)=(p:Int)+1:=I64.wrap ⟨by omega,by omega⟩;have w2:IntKind.i64.wrap ((p:Int)+2)=(p:Int)+2:=I64.wrap ⟨by omega,by omega⟩;have w3:IntKind.i64.wrap ((p:Int)+3)=(p:Int)+3:=I64.wrap ⟨by omega,by omega⟩;have hc:(s[p].toNat:Int)<256:=by have:=UInt8.toNat_lt s[p];omega
 obtain⟨c,ec⟩:∃c:Int,(s[p].toNat:Int)=c:=⟨_,rfl⟩;have a8:0<=c:=by omega
 rw[ec]at hR hc;have HR:=aC hR;clear hR;unfold vR;go_in;go_upto_region 3 with(first|(go_at_call 166;with_reducible refine aE (a4 _) λp=>?_)|(go_at_call 166;with_reducible refine aE (a5 _) λp=>?_)|(go_at_call 166;with_reducible refine aE (a6 _) λp=>?_))
 have a2:c<128\/(128<=c/\c<194)\/(194<=c/\c<224)\/(224<=c/\c<240)\/(240<=c/\c<245)\/245<=c:=by omega
 clear ec a4 a5 a6 w1 w2 w3;rcases a2 with a2|a2|a2|a2|a2|a2
 .have f0:c<128:=by omega
  have f1:¬194<=c:=by omega
  have f2:c<=223:=by omega
  have f3:¬224<=c:=by omega
  have f4:c<=239:=by omega
  have f5:¬240<=c:=by omega
  have f6:c<=244:=by omega
  have a0:(c,(1:Int))=R:=by rw[<-HR.out];unfold bS;simp(config:={ zeta:=true}) only[*];simp[*]
  subst a0;clear HR;go_wp2
  go_ret2;exact gAC
 .have f0:¬c<128:=by omega
  have f1:¬194<=c:=by omega
  have f2:c<=223:=by omega
  have f3:¬224<=c:=by omega
  have f4:c<=239:=by omega
  have f5:¬240<=c:=by omega
  have f6:c<=244:=by omega
  have a0:(65533,(0:Int))=R:=by rw[<-HR.out];unfold bS;simp(config:={ zeta:=true}) only[*];simp[*]
  subst a0;clear HR;go_wp2
  go_ret2;exact gAC
 .by_cases ha:0<=a
  .have f0:¬c<128:=by omega
   have f1:194<=c:=by omega
   have f2:c<=223:=by omega
   have f3:¬224<=c:=by omega
   have f4:c<=239:=by omega
   have f5:¬240<=c:=by omega
   have f6:c<=244:=by omega
   have f7:0<=a:=by omega
   have g0:IntKind.i64.wrap (c-192)=c-192:=I64.wrap ⟨by omega,by omega⟩;have g1:IntKind.i64.wrap ((c-192)*64)=(c-192)*64:=I64.wrap ⟨by omega,by omega⟩;have g2:IntKind.i64.wrap ((c-192)*64+a)=(c-192)*64+a:=I64.wrap ⟨by omega,by omega⟩;have a0:((c-192)*64+a,(2:Int))=R:=by rw[<-HR.out];unfold bS;simp(config:={ zeta:=true}) only[*];simp[*]
   subst a0;clear HR;go_wp2
   go_ret2;exact gAC
  have f0:¬c<128:=by omega
  have f1:194<=c:=by omega
  have f2:c<=223:=by omega
  have f3:¬224<=c:=by omega
  have f4:c<=239:=by omega
  have f5:¬240<=c:=by omega
  have f6:c<=244:=by omega
  have f7:¬0<=a:=by omega
  have a0:(65533,(0:Int))=R:=by rw[<-HR.out];unfold bS;simp(config:={ zeta:=true}) only[*];simp[*]
  subst a0;clear HR;go_wp2
  go_ret2;exact gAC
 .by_cases ha:0<=a
  .by_cases hb:0<=b
   .have a1:(¬2048<=(c-224)*4096+a*64+b)\/(2048<=(c-224)*4096+a*64+b/\(c-224)*4096+a*64+b<55296)\/(55296<=(c-224)*4096+a*64+b/\(c-224)*4096+a*64+b<=57343)\/57343<(c-224)*4096+a*64+b:=by omega
    rcases a1 with a1|a1|a1|a1
    .have f0:¬c<128:=by omega
     have f1:194<=c:=by omega
     have f2:¬c<=223:=by omega
     have f3:224<=c:=by omega
     have f4:c<=239:=by omega
     have f5:¬240<=c:=by omega
     have f6:c<=244:=by omega
     have f7:0<=a:=by omega
     have f8:0<=b:=by omega
     have f9:¬2048<=(c-224)*4096+a*64+b:=by omega
     have g0:IntKind.i64.wrap (c-224)=c-224:=I64.wrap ⟨by omega,by omega⟩;have g1:IntKind.i64.wrap ((c-224)*4096)=(c-224)*4096:=I64.wrap ⟨by omega,by omega⟩;have g2:IntKind.i64.wrap (a*64)=a*64:=I64.wrap ⟨by omega,by omega⟩;have g3:IntKind.i64.wrap ((c-224)*4096+a*64)=(c-224)*4096+a*64:=I64.wrap ⟨by omega,by omega⟩;have g4:IntKind.i64.wrap ((c-224)*4096+a*64+b)=(c-224)*4096+a*64+b:=I64.wrap ⟨by omega,by omega⟩;have a0:(65533,(0:Int))=R:=by rw[<-HR.out];unfold bS;simp(config:={ zeta:=true}) only[*];simp[*]
     subst a0;clear HR;go_wp2
     go_ret2;exact gAC
    .have f0:¬c<128:=by omega
     have f1:194<=c:=by omega
     have f2:¬c<=223:=by omega
     have f3:224<=c:=by omega
     have f4:c<=239:=by omega
     have f5:¬240<=c:=by omega
     have f6:c<=244:=by omega
     have f7:0<=a:=by omega
     have f8:0<=b:=by omega
     have f9:2048<=(c-224)*4096+a*64+b:=by omega
     have a3:(c-224)*4096+a*64+b<55296:=by omega
     have g0:IntKind.i64.wrap (c-224)=c-224:=I64.wrap ⟨by omega,by omega⟩;have g1:IntKind.i64.wrap ((c-224)*4096)=(c-224)*4096:=I64.wrap ⟨by omega,by omega⟩;have g2:IntKind.i64.wrap (a*64)=a*64:=I64.wrap ⟨by omega,by omega⟩;have g3:IntKind.i64.wrap ((c-224)*4096+a*64)=(c-224)*4096+a*64:=I64.wrap ⟨by omega,by omega⟩;have g4:IntKind.i64.wrap ((c-224)*4096+a*64+b)=(c-224)*4096+a*64+b:=I64.wrap ⟨by omega,by omega⟩;have a0:((c-224)*4096+a*64+b,(3:Int))=R:=by rw[<-HR.out];unfold bS;simp(config:={ zeta:=true}) only[*];simp[*]
     subst a0;clear HR;go_wp2
     go_ret2;exact gAC
    .have f0:¬c<128:=by omega
     have f1:194<=c:=by omega
     have f2:¬c<=223:=by omega
     have f3:224<=c:=by omega
     have f4:c<=239:=by omega
     have f5:¬240<=c:=by omega
     have f6:c<=244:=by omega
     have f7:0<=a:=by omega
     have f8:0<=b:=by omega
     have f9:2048<=(c-224)*4096+a*64+b:=by omega
     have a3:¬(c-224)*4096+a*64+b<55296:=by omega
     have a7:¬57343<(c-224)*4096+a*64+b:=by omega
     have g0:IntKind.i64.wrap (c-224)=c-224:=I64.wrap ⟨by omega,by omega⟩;have g1:IntKind.i64.wrap ((c-224)*4096)=(c-224)*4096:=I64.wrap ⟨by omega,by omega⟩;have g2:IntKind.i64.wrap (a*64)=a*64:=I64.wrap ⟨by omega,by omega⟩;have g3:IntKind.i64.wrap ((c-224)*4096+a*64)=(c-224)*4096+a*64:=I64.wrap ⟨by omega,by omega⟩;have g4:IntKind.i64.wrap ((c-224)*4096+a*64+b)=(c-224)*4096+a*64+b:=I64.wrap ⟨by omega,by omega⟩;have a0:(65533,(0:Int))=R:=by rw[<-HR.out];unfold bS;simp(config:={ zeta:=true}) only[*];simp[*]
     subst a0;clear HR;go_wp2
     go_ret2;exact gAC
    have f0:¬c<128:=by omega
    have f1:194<=c:=by omega
    have f2:¬c<=223:=by omega
    have f3:224<=c:=by omega
    have f4:c<=239:=by omega
    have f5:¬240<=c:=by omega
    have f6:c<=244:=by omega
    have f7:0<=a:=by omega
    have f8:0<=b:=by omega
    have f9:2048<=(c-224)*4096+a*64+b:=by omega
    have a3:¬(c-224)*4096+a*64+b<55296:=by omega
    have a7:57343<(c-224)*4096+a*64+b:=by omega
    have g0:IntKind.i64.wrap (c-224)=c-224:=I64.wrap ⟨by omega,by omega⟩;have g1:IntKind.i64.wrap ((c-224)*4096)=(c-224)*4096:=I64.wrap ⟨by omega,by omega⟩;have g2:IntKind.i64.wrap (a*64)=a*64:=I64.wrap ⟨by omega,by omega⟩;have g3:IntKind.i64.wrap ((c-224)*4096+a*64)=(c-224)*4096+a*64:=I64.wrap ⟨by omega,by omega⟩;have g4:IntKind.i64.wrap ((c-224)*4096+a*64+b)=(c-224)*4096+a*64+b:=I64.wrap ⟨by omega,by omega⟩;have a0:((c-224)*4096+a*64+b,(3:Int))=R:=by rw[<-HR.out];unfold bS;simp(config:={ zeta:=true}) only[*];simp[*]
    subst a0;clear HR;go_wp2
    go_ret2;exact gAC
   have f0:¬c<128:=by omega
   have f1:194<=c:=by omega
   have f2:¬c<=223:=by omega
   have f3:224<=c:=by omega
   have f4:c<=239:=by omega
   have f5:¬240<=c:=by omega
   have f6:c<=244:=by omega
   have f7:0<=a:=by omega
   have f8:¬0<=b:=by omega
   have a0:(65533,(0:Int))=R:=by rw[<-HR.out];unfold bS;simp(config:={ zeta:=true}) only[*];simp[*]
   subst a0;clear HR;go_wp2
   go_ret2;exact gAC
  have f0:¬c<128:=by omega
  have f1:194<=c:=by omega
  have f2:¬c<=223:=by omega
  have f3:224<=c:=by omega
  have f4:c<=239:=by omega
  have f5:¬240<=c:=by omega
  have f6:c<=244:=by omega
  have f7:¬0<=a:=by omega
  have a0:(65533,(0:Int))=R:=by rw[<-HR.out];unfold bS;simp(config:={ zeta:=true}) only[*];simp[*]
  subst a0;clear HR;go_wp2
  go_ret2;exact gAC
 .by_cases ha:0<=a
  .by_cases hb:0<=b
   .by_cases hd:0<=d
    .have a1:(¬65536<=(c-240)*262144+a*4096+b*64+d)\/(65536<=(c-240)*262144+a*4096+b*64+d/\(c-240)*262144+a*4096+b*64+d<=1114111)\/(65536<=(c-240)*262144+a*4096+b*64+d/\¬(c-240)*262144+a*4096+b*64+d<=1114111):=by omega
     rcases a1 with a1|a1|a1
     .have f0:¬c<128:=by omega
      have f1:194<=c:=by omega
      have f2:¬c<=223:=by omega
      have f3:224<=c:=by omega
      have f4:¬c<=239:=by omega
      have f5:240<=c:=by omega
      have f6:c<=244:=by omega
      have f7:0<=a:=by omega
      have f8:0<=b:=by omega
      have f9:0<=d:=by omega
      have a3:¬65536<=(c-240)*262144+a*4096+b*64+d:=by omega
      have g0:IntKind.i64.wrap (c-240)=c-240:=I64.wrap ⟨by omega,by omega⟩;have g1:IntKind.i64.wrap ((c-240)*262144)=(c-240)*262144:=I64.wrap ⟨by omega,by omega⟩;have g2:IntKind.i64.wrap (a*4096)=a*4096:=I64.wrap ⟨by omega,by omega⟩;have g3:IntKind.i64.wrap (b*64)=b*64:=I64.wrap ⟨by omega,by omega⟩;have g4:IntKind.i64.wrap ((c-240)*262144+a*4096)=(c-240)*262144+a*4096:=I64.wrap ⟨by omega,by omega⟩;have g5:IntKind.i64.wrap ((c-240)*262144+a*4096+b*64)=(c-240)*262144+a*4096+b*64:=I64.wrap ⟨by omega,by omega⟩;have g6:IntKind.i64.wrap ((c-240)*262144+a*4096+b*64+d)=(c-240)*262144+a*4096+b*64+d:=I64.wrap ⟨by omega,by omega⟩;have a0:(65533,(0:Int))=R:=by rw[<-HR.out];unfold bS;simp(config:={ zeta:=true}) only[*];simp[*]
      subst a0;clear HR;go_wp2
      go_ret2;exact gAC
     .have f0:¬c<128:=by omega
      have f1:194<=c:=by omega
      have f2:¬c<=223:=by omega
      have f3:224<=c:=by omega
      have f4:¬c<=239:=by omega
      have f5:240<=c:=by omega
      have f6:c<=244:=by omega
      have f7:0<=a:=by omega
      have f8:0<=b:=by omega
      have f9:0<=d:=by omega
      have a3:65536<=(c-240)*262144+a*4096+b*64+d:=by omega
      have a7:(c-240)*262144+a*4096+b*64+d<=1114111:=by omega
      have g0:IntKind.i64.wrap (c-240)=c-240:=I64.wrap ⟨by omega,by omega⟩;have g1:IntKind.i64.wrap ((c-240)*262144)=(c-240)*262144:=I64.wrap ⟨by omega,by omega⟩;have g2:IntKind.i64.wrap (a*4096)=a*4096:=I64.wrap ⟨by omega,by omega⟩;have g3:IntKind.i64.wrap (b*64)=b*64:=I64.wrap ⟨by omega,by omega⟩;have g4:IntKind.i64.wrap ((c-240)*262144+a*4096)=(c-240)*262144+a*4096:=I64.wrap ⟨by omega,by omega⟩;have g5:IntKind.i64.wrap ((c-240)*262144+a*4096+b*64)=(c-240)*262144+a*4096+b*64:=I64.wrap ⟨by omega,by omega⟩;have g6:IntKind.i64.wrap ((c-240)*262144+a*4096+b*64+d)=(c-240)*262144+a*4096+b*64+d:=I64.wrap ⟨by omega,by omega⟩;have a0:((c-240)*262144+a*4096+b*64+d,(4:Int))=R:=by rw[<-HR.out];unfold bS;simp(config:={ zeta:=true}) only[*];simp[*]
      subst a0;clear HR;go_wp2
      go_ret2;exact gAC
     have f0:¬c<128:=by omega
     have f1:194<=c:=by omega
     have f2:¬c<=223:=by omega
     have f3:224<=c:=by omega
     have f4:¬c<=239:=by omega
     have f5:240<=c:=by omega
     have f6:c<=244:=by omega
     have f7:0<=a:=by omega
     have f8:0<=b:=by omega
     have f9:0<=d:=by omega
     have a3:65536<=(c-240)*262144+a*4096+b*64+d:=by omega
     have a7:¬(c-240)*262144+a*4096+b*64+d<=1114111:=by omega
     have g0:IntKind.i64.wrap (c-240)=c-240:=I64.wrap ⟨by omega,by omega⟩;have g1:IntKind.i64.wrap ((c-240)*262144)=(c-240)*262144:=I64.wrap ⟨by omega,by omega⟩;have g2:IntKind.i64.wrap (a*4096)=a*4096:=I64.wrap ⟨by omega,by omega⟩;have g3:IntKind.i64.wrap (b*64)=b*64:=I64.wrap ⟨by omega,by omega⟩;have g4:IntKind.i64.wrap ((c-240)*262144+a*4096)=(c-240)*262144+a*4096:=I64.wrap ⟨by omega,by omega⟩;have g5:IntKind.i64.wrap ((c-240)*262144+a*4096+b*64)=(c-240)*262144+a*4096+b*64:=I64.wrap ⟨by omega,by omega⟩;have g6:IntKind.i64.wrap ((c-240)*262144+a*4096+b*64+d)=(c-240)*262144+a*4096+b*64+d:=I64.wrap ⟨by omega,by omega⟩;have a0:(65533,(0:Int))=R:=by rw[<-HR.out];unfold bS;simp(config:={ zeta:=true}) only[*];simp[*]
     subst a0;clear HR;go_wp2
     go_ret2;exact gAC
    have f0:¬c<128:=by omega
    have f1:194<=c:=by omega
    have f2:¬c<=223:=by omega
    have f3:224<=c:=by omega
    have f4:¬c<=239:=by omega
    have f5:240<=c:=by omega
    have f6:c<=244:=by omega
    have f7:0<=a:=by omega
    have f8:0<=b:=by omega
    have f9:¬0<=d:=by omega
    have a0:(65533,(0:Int))=R:=by rw[<-HR.out];unfold bS;simp(config:={ zeta:=true}) only[*];simp[*]
    subst a0;clear HR;go_wp2
    go_ret2;exact gAC
   have f0:¬c<128:=by omega
   have f1:194<=c:=by omega
   have f2:¬c<=223:=by omega
   have f3:224<=c:=by omega
   have f4:¬c<=239:=by omega
   have f5:240<=c:=by omega
   have f6:c<=244:=by omega
   have f7:0<=a:=by omega
   have f8:¬0<=b:=by omega
   have a0:(65533,(0:Int))=R:=by rw[<-HR.out];unfold bS;simp(config:={ zeta:=true}) only[*];simp[*]
   subst a0;clear HR;go_wp2
   go_ret2;exact gAC
  have f0:¬c<128:=by omega
  have f1:194<=c:=by omega
  have f2:¬c<=223:=by omega
  have f3:224<=c:=by omega
  have f4:¬c<=239:=by omega
  have f5:240<=c:=by omega
  have f6:c<=244:=by omega
  have f7:¬0<=a:=by omega
  have a0:(65533,(0:Int))=R:=by rw[<-HR.out];unfold bS;simp(config:={ zeta:=true}) only[*];simp[*]
  subst a0;clear HR;go_wp2
  go_ret2;exact gAC
 have f0:¬c<128:=by omega
 have f1:194<=c:=by omega
 have f2:¬c<=223:=by omega
 have f3:224<=c:=by omega
 have f4:¬c<=239:=by omega
 have f5:240<=c:=by omega
 have f6:¬c<=244:=by omega
 have a0:(65533,(0:Int))=R:=by rw[<-HR.out];unfold bS;simp(config:={ zeta:=true}) only[*];simp[*]
 subst a0;clear HR;go_wp2
 go_ret2;exact gAC
theorem mA (s:ByteArray) (p:Nat):0<=(cD s p).1/\(cD s p).1<=1114111/\0<=(cD s p).2/\(cD s p).2<=4:=by
 have h0:=lZ s p;have h1:=fJ s (p+1);have h2:=fJ s (p+2);have h3:=fJ s (p+3);unfold cD;generalize dQ s p=c at *;generalize fS s (p+1)=a at *;generalize fS s (p+2)=b at *;generalize fS s (p+3)=d at *;unfold bS
 repeat' split
 all_goals(simp only;omega)
def kS (s:ByteArray):Nat->Nat->Int->Int
 |0,_,h=>h
 |b+1,p,h=>if p<s.size then kS s b (p+(max (cD s p).2 1).toNat) ((31*h+(cD s p).1)%4294967296)else h
def vH (s:ByteArray):Int:=kS s s.size 0 7
theorem aKV (s:ByteArray) (b p:Nat) (h:Int) (hp:¬p<s.size):kS s b p h=h:=by
 cases b with
 |zero=>rfl
 |succ b=>simp[kS,hp]
theorem aDM (s:ByteArray):∀b p h,0<=h/\h<4294967296->0<=kS s b p h/\kS s b p h<4294967296
 |0,_,h,hh=>hh
 | b+1,p,h,hh=>by
   unfold kS;split
   .have:=mA s p;exact aDM s b _ _ (by omega)
   exact hh
theorem aZQ (s:ByteArray) (hs:s.size<=1000000000) (w:World):
 vR w 119 #[.string s] (.int .i64 (vH s)):=by
 obtain⟨R,hR⟩:=gAB (vH s);rw[hR];unfold vH at hR;have HR:=aC hR;clear hR;unfold vR;go_in;go_wp2
 go_loopw[3,4] (λvh vi wr=>∃(p b:Nat) (acc:Int),vi=.int .i64 p/\vh=.int .i64 acc/\0<=acc/\acc<4294967296/\kS s b p acc=R/\s.size<=p+b/\p<=s.size+4/\Bl w wr) (λ_ vi _=>(s.size+4-intOf vi).toNat)
 case atStart=>exact⟨0,s.size,7,rfl,rfl,by omega,by omega,HR.out,by omega,by omega,bel _ _⟩
 obtain⟨p,b,acc,rfl,rfl,ha0,ha1,hre,hbp,hp4,hb⟩:=hrel;have iB:Bel w wr:=⟨hb⟩;by_cases hp:p<s.size
 .have a2:(p:Int)<s.size:=by omega
  obtain⟨b',rfl⟩:∃b',b=b'+1:=⟨b-1,by omega⟩;have a0:=λww=>aUQ s p hp (by omega) ww;have a1:=mA s p;rw[kS,zB hp]at hre;generalize hrk:cD s p=rk at hre a0 a1;clear hrk;obtain⟨r,k⟩:=rk;simp only at a1 hre a0;obtain⟨m,hm⟩:∃m:Nat,max k 1=m:=⟨(max k 1).toNat,by omega⟩;have a4:1<=m/\m<=4:=by omega
  rw[hm,zJ]at hre;have w1:IntKind.i64.wrap (31*acc)=31*acc:=I64.wrap ⟨by omega,by omega⟩;have w2:IntKind.i64.wrap (31*acc+r)=31*acc+r:=I64.wrap ⟨by omega,by omega⟩;have w3:IntKind.i64.wrap ((p:Int)+m)=p+m:=I64.wrap ⟨by omega,by omega⟩;have w4:IntKind.i64.wrap ((31*acc+r)%4294967296)=(31*acc+r)%4294967296:=I64.wrap ⟨by omega,by omega⟩;have w5:(31*acc+r).tmod 4294967296=(31*acc+r)%4294967296:=Int.tmod_eq_emod_of_nonneg (by omega);have a3:=aC hre;clear hre;go_wp2_with(go_at_call 120;refine aE (a0 _) λpj=>?_);go_roundw
  case rel=>exact⟨p+m,b',_,by rfl,rfl,by omega,by omega,a3.out,by omega,by omega,bel _ _⟩
  simp[intOf];omega
 rw[aKV s b p acc hp]at hre;subst hre;have a2:¬(p:Int)<s.size:=by omega
 go_wp2;go_ret;exact gAC
def fK (s:ByteArray):Nat->Nat->Bool
 |0,_=>true
 |b+1,p=>if p<s.size then(if (cD s p).2=0\/(cD s p).1=47\/(cD s p).1<32\/(cD s p).1=127 then false else fK s b (p+(cD s p).2.toNat))else true
def bK (s:ByteArray):Int:=if 12<s.size then 801 else if(s.toList.isEmpty||s.toList==[46]||s.toList==[46,46])=true then 800 else if fK s s.size 0=true then 0 else 800
theorem aHQ (s:ByteArray) (b p:Nat) (hp:¬p<s.size):fK s b p=true:=by
 cases b with
 |zero=>rfl
 |succ b=>simp[fK,hp]
theorem aMS (s:ByteArray) (w:World):
 vR w 90 #[.string s] (.int .i64 (bK s)):=by
 by_cases hlen:12<s.size
 .have a0:(12:Int)<s.size:=by omega
  have hM:bK s=801:=by simp[bK,hlen]
  rw[hM];unfold vR;go_in;go_wp2;go_ret;exact gAC
 have a0:¬(12:Int)<s.size:=by omega
 rcases h1:s.toList.isEmpty with _|_;rcases h2:s.toList==[46]with _|_;rcases h3:s.toList==[46,46]with _|_
 .have hM:bK s=if fK s s.size 0=true then 0 else 800:=by simp only[bK,zA hlen,h1,h2,h3];rfl
  rw[hM];obtain⟨V,hV⟩:∃V:Int,(if fK s s.size 0=true then 0 else 800)=V:=⟨_,rfl⟩;rw[hV];obtain⟨T,hT⟩:=gAB (fK s s.size 0);rw[hT]at hV;have HT:=bJ hT hV;clear hM hT hV;unfold vR;go_in;go_wp2
  go_loopw[3] (λvi wr=>∃(p b:Nat),vi=.int .i64 p/\fK s b p=T/\s.size<=p+b/\p<=s.size+4/\Bl w wr) (λvi _=>(s.size+4-intOf vi).toNat)
  case atStart=>exact⟨0,s.size,rfl,HT.out.1,by omega,by omega,bel _ _⟩
  obtain⟨p,b,rfl,hre,hbp,hp4,hb⟩:=hrel;have iB:Bel w wr:=⟨hb⟩;by_cases hp:p<s.size
  .have a8:(p:Int)<s.size:=by omega
   obtain⟨b',rfl⟩:∃b',b=b'+1:=⟨b-1,by omega⟩;have a5:=λww=>aUQ s p hp (by omega) ww;have a7:=mA s p;rw[fK,zB hp]at hre;generalize hrk:cD s p=rk at hre a5 a7;clear hrk;obtain⟨r,k⟩:=rk;simp only at a7 hre a5;by_cases hbad:k=0\/r=47\/r<32\/r=127
   .rw[zB hbad]at hre;subst hre;obtain rfl:V=800:=by have:=HT.out.2;simpa using this.symm
    have a6:k=0\/((k==0)=false/\(r==47)=true)\/((k==0)=false/\(r==47)=false/\r<32)\/((k==0)=false/\(r==47)=false/\¬r<32/\(r==127)=true):=by
     by_cases a1:k=0
     .exact .inl a1
     by_cases a2:r=47
     .exact .inr (.inl ⟨by simpa using a1,by simpa using a2⟩)
     by_cases a3:r<32
     .exact .inr (.inr (.inl ⟨by simpa using a1,by simpa using a2,a3⟩))
     exact .inr (.inr (.inr ⟨by simpa using a1,by simpa using a2,a3,by simp;omega⟩))
    clear hbad HT;rcases a6 with hc|⟨c1,c2⟩|⟨c1,c2,c3⟩|⟨c1,c2,c3,c4⟩
    .have c1:(k==0)=true:=by simpa using hc
     clear hc;go_wp2_with(go_at_call 120;refine aE (a5 _) λpj=>?_);go_ret;exact gAC
    all_goals
     go_wp2_with(go_at_call 120;refine aE (a5 _) λpj=>?_);go_ret;exact gAC
   rw[zA hbad]at hre;have a1:(k==0)=false:=by simp;omega
   have a2:(r==47)=false:=by simp;omega
   have a3:¬r<32:=by omega
   have a4:(r==127)=false:=by simp;omega
   have hk:¬k=0:=by omega
   obtain⟨m,rfl⟩:∃m:Nat,k=m:=⟨k.toNat,by omega⟩;have b0:1<=m/\m<=4:=by omega
   rw[zJ]at hre;have w3:IntKind.i64.wrap ((p:Int)+m)=p+m:=I64.wrap ⟨by omega,by omega⟩;have a9:=aC hre;clear hre hbad hk;go_wp2_with(go_at_call 120;refine aE (a5 _) λpj=>?_);go_roundw
   case rel=>exact⟨p+m,b',by rfl,a9.out,by omega,by omega,bel _ _⟩
   simp[intOf];omega
  rw[aHQ s b p hp]at hre;subst hre;obtain rfl:V=0:=by have:=HT.out.2;simpa using this.symm
  have a8:¬(p:Int)<s.size:=by omega
  go_wp2;go_ret;exact gAC
 all_goals
  have hM:bK s=800:=by simp only[bK,zA hlen];simp[*]
  rw[hM];unfold vR;go_in;go_wp2;go_ret;exact gAC
def lH (x y:ByteArray):Nat->Nat->Bool
 |0,_=>decide (x.size<y.size)
 |n+1,p=>if p<x.size/\p<y.size then(if dQ x p=dQ y p then lH x y n (p+1)else decide (dQ x p<dQ y p))else decide (x.size<y.size)
def eA (x y:ByteArray):Bool:=lH x y x.size 0
theorem aHR (x y:ByteArray) (n p:Nat) (hp:¬(p<x.size/\p<y.size)):lH x y n p=decide (x.size<y.size):=by
 cases n with
 |zero=>rfl
 |succ n=>rw[lH,zA hp]
theorem aFC (x y:ByteArray) (hs:x.size<=1000000000000) (w:World):
 vR w 81 #[.string x,.string y] (.bool (eA x y)):=by
 obtain⟨R,hR⟩:=gAB (eA x y);rw[hR];unfold eA at hR;have HR:=aC hR;clear hR;unfold vR;go_in;go_wp2
 go_loopw[5] (λvi wr=>∃(q b:Nat),vi=.int .i64 q/\lH x y b q=R/\x.size<=q+b/\q<=x.size/\Bl w wr) (λvi _=>(x.size-intOf vi).toNat)
 case atStart=>exact⟨0,x.size,rfl,HR.out,by omega,by omega,bel _ _⟩
 obtain⟨q,b,rfl,hre,hbp,hp4,hb⟩:=hrel;have iB:Bel w wr:=⟨hb⟩;have a1:(q<x.size/\q<y.size)\/¬(q<x.size)\/(q<x.size/\¬q<y.size):=by omega
 have a0:∀ww,Bel w ww->¬(q<x.size/\q<y.size)->Ending.returned (.bool (decide ((x.size:Int)<y.size)))=Ending.returned (.bool R)/\Bl w ww:=λww hww hn=>by rw[aHR x y b q hn]at hre;rw[<-hre];exact⟨by congr 2;by_cases h:x.size<y.size<;>simp[h]<;>omega,hww.below⟩
 rcases a1 with⟨h1,h2⟩|h1|⟨h1,h2⟩
 .obtain⟨b',rfl⟩:∃b',b=b'+1:=⟨b-1,by omega⟩
  clear a0;rw[lH,zB ⟨h1,h2⟩,qK h1,qK h2]at hre;have a2:(q:Int)<x.size:=by omega
  have a3:(q:Int)<y.size:=by omega
  have w3:IntKind.i64.wrap ((q:Int)+1)=q+1:=I64.wrap ⟨by omega,by omega⟩;by_cases he:(x[q].toNat:Int)=y[q].toNat
  .rw[zB he]at hre;have a4:((x[q].toNat:Int) !=y[q].toNat)=false:=by simpa using he
   have a5:=aC hre;clear hre he;go_wp2;refine qR ?_
   repeat(go_big_quiet_step (fail))
   refine QN λp=>?_;go_wp2;go_roundw
   case rel=>exact⟨q+1,b',by rfl,a5.out,by omega,by omega,bel _ _⟩
   simp[intOf];omega
  rw[zA he]at hre;have a4:((x[q].toNat:Int) !=y[q].toNat)=true:=by simpa using he
  subst hre;go_wp2;refine qR ?_
  repeat(go_big_quiet_step (fail))
  refine QN λp=>?_;go_wp2;refine qR ?_
  repeat(go_big_quiet_step (fail))
  refine QN λp=>?_;go_wp2;exact xD (v:=.bool (decide ((x[q].toNat:Int)<y[q].toNat))) (by simp[results,Tryz.results81,go_sem]) rfl ⟨rfl,bel _ _⟩
 .have a2:¬(q:Int)<x.size:=by omega
  have HE:=aC a0;clear a0 hre;go_wp2;exact xD (v:=.bool (decide ((x.size:Int)<y.size))) (by simp[results,Tryz.results81,go_sem]) rfl (HE.out _ ⟨bel _ _⟩ (by omega))
 have a2:(q:Int)<x.size:=by omega
 have a3:¬(q:Int)<y.size:=by omega
 have HE:=aC a0;clear a0 hre;go_wp2;exact xD (v:=.bool (decide ((x.size:Int)<y.size))) (by simp[results,Tryz.results81,go_sem]) rfl (HE.out _ ⟨bel _ _⟩ (by omega))
def bA (s:ByteArray):Int:=vH s%8
theorem sU (s:ByteArray) (hs:s.size<=1000000000) (w:World):
 vR w 87 #[.string s] (.int .i64 (bA s)):=by
 have hb:0<=vH s/\vH s<4294967296:=aDM s s.size 0 7 (by omega);unfold bA;have h1:=λww=>aZQ s hs ww;generalize vH s=h at *;have w5:h.tmod 8=h%8:=Int.tmod_eq_emod_of_nonneg (by omega);have w6:IntKind.i64.wrap (h%8)=h%8:=I64.wrap ⟨by omega,by omega⟩;unfold vR;go_in;go_wp2_with((go_at_call 119;refine aE (h1 _) λp=>?_));go_ret;exact gAC
def qV (e:Int):Int:=if e=0 then 0 else if e=1101 then 6 else if e=1102 then 6 else 9
theorem aWX (e:Int) (w:World):
 Calls prog 84 #[e] w λx w'=>x=.returned (.int .i64 (qV e))/\Bl w w':=by
 by_cases h0:e=0
 .subst h0
  go_in;go_wp2;go_ret;exact gAC
 have b0:(e==0)=false:=by simpa using h0
 by_cases h1:e=1101
 .subst h1
  go_in;go_wp2;go_ret;exact gAC
 have b1:(e==1101)=false:=by simpa using h1
 by_cases h2:e=1102
 .subst h2
  go_in;go_wp2;go_ret;exact gAC
 have b2:(e==1102)=false:=by simpa using h2
 have hv:qV e=9:=by simp[qV,h0,h1,h2]
 rw[hv];clear h0 h1 h2 hv;go_in;go_wp2;go_ret;exact gAC
section
def bP (S:PSt) (n:Int):Int:=cV (nL n) S.ins
theorem fE (S:PSt) (n:Int):bP S n=-1\/(0<=bP S n/\bP S n<S.ins.length):=lK _ _
theorem aBK (S:PSt) (iv ov mv:Value) (n:Int) (w:World) (h:StRead w iv ov mv S) (hlen:S.ins.length<=1000000000):
 vR w 85 #[.agg #[iv,ov,mv],.int .i64 n] (.int .i64 (bP S n)):=by
 obtain⟨ai,ni,ci,ao,no,co,am,nm,cm,rfl,rfl,rfl⟩:=h.slices;obtain⟨a,cap,e1,hat⟩:=h.ins_at;cases e1;have HA:=aC hat;clear hat h;obtain⟨R,hR⟩:=gAB (bP S n);rw[hR];unfold bP cV at hR;have HR:=aC hR;clear hR;unfold vR;go_in;go_wp2
 go_loopw[5] (λi wr=>∃(q:Nat),i=.int .i64 q/\q<=S.ins.length/\bQ (nL n) (S.ins.drop q) q=R/\Bl w wr/\Blk wr w.heap.size #[.slice ai S.ins.length ci,.slice ao no co,.slice am nm cm] 26) (λi _=>(S.ins.length-intOf i).toNat)
 case atStart=>exact⟨0,rfl,by omega,HR.out,bel _ _,Blk.new w _ 26⟩
 obtain⟨q,rfl,hq,hre,hb,hblk⟩:=hrel;have iB:Bel w wr:=⟨hb⟩;have iL:=hblk.lt;have s0:=hblk.cell 0;simp at s0;have HB:=aC hblk;clear hblk;by_cases hlt:q<S.ins.length
 .obtain⟨z,hz⟩:=gAA hlt
  obtain⟨b,off,ev,rfl,iG0,iG,-,-,c0,-,-,-⟩:=HA.out wr hb q z hz;rw[gQ _ S.ins q z hz]at hre;have HZ:=aC hre;clear hz hre;rcases hpz:(z.num==n)with _|_
  .go_wp2
   go_roundw
   case rel=>exact⟨q+1,by go_num,by omega,by have:=HZ.out;simpa[nL,hpz]using this,bel _ _,by first|exact HB.out|exact HB.out.alloc _|exact HB.out.junk _⟩
   simp[intOf];omega
  have hv:R=q:=by have:=HZ.out;simpa[nL,hpz]using this.symm
  subst hv;go_wp2;go_ret;exact gAC
 rw[jN _ S.ins q hlt]at hre;subst hre;go_wp2;go_ret;exact gAC
def fdL (c f:Int):List PDesc->Int
 |[]=>0
 |d::r=>if(d.core==c&&d.fd==f)=true then d.num else fdL c f r
def oE (S:PSt) (c f:Int):Int:=fdL c f S.op
theorem aWV (S:PSt) (iv ov mv:Value) (c f:Int) (w:World) (h:StRead w iv ov mv S) (hlen:S.op.length<=1000000000):
 vR w 43 #[.agg #[iv,ov,mv],.int .i64 c,.int .i64 f] (.int .i64 (oE S c f)):=by
 obtain⟨ai,ni,ci,ao,no,co,am,nm,cm,rfl,rfl,rfl⟩:=h.slices;obtain⟨a,cap,e1,hat⟩:=h.1.at_;rw[lM]at e1;cases e1;have HA:=aC hat;clear hat h;obtain⟨R,hR⟩:=gAB (oE S c f);rw[hR];unfold oE at hR;have HR:=aC hR;clear hR;unfold vR;go_in;go_wp2
 go_loopw[7] (λi wr=>∃(q:Nat),i=.int .i64 q/\q<=S.op.length/\fdL c f (S.op.drop q)=R/\Bl w wr/\Blk wr w.heap.size #[.slice ai ni ci,.slice ao S.op.length co,.slice am nm cm] 26) (λi _=>(S.op.length-intOf i).toNat)
 case atStart=>exact⟨0,rfl,by omega,HR.out,bel _ _,Blk.new w _ 26⟩
 obtain⟨q,rfl,hq,hre,hb,hblk⟩:=hrel;have iB:Bel w wr:=⟨hb⟩;have iL:=hblk.lt;have s1:=hblk.cell 1;simp at s1;have HB:=aC hblk;clear hblk;by_cases hlt:q<S.op.length
 .obtain⟨z,hz⟩:=gAA hlt
  obtain⟨b,off,rfl,iG0,iG,hc⟩:=HA.out wr hb q z.cells (by rw[gM,hz];rfl);have c0:=hc 0 _ rfl;have c1:=hc 1 _ rfl;have c2:=hc 2 _ rfl;rw[zN]at c0;rw[cQ hz,fdL]at hre;clear hz hc;rcases hpz:(z.core==c)with _|_
  .rw[hpz,yJ,zA (by decide)]at hre;have HZ:=aC hre;clear hre;go_wp2
   go_roundw
   case rel=>exact⟨q+1,by go_num,by omega,HZ.out,bel _ _,HB.out⟩
   simp[intOf];omega
  rcases hpf:(z.fd==f)with _|_
  .rw[hpf,Bool.and_false,zA (by decide)]at hre;have HZ:=aC hre;clear hre;go_wp2
   go_roundw
   case rel=>exact⟨q+1,by go_num,by omega,HZ.out,bel _ _,HB.out⟩
   simp[intOf];omega
  rw[hpz,hpf,zB (by decide)]at hre;subst hre;go_wp2;go_ret;exact gAC
 rw[zS (by omega)]at hre;obtain rfl:R=0:=by rw[<-hre];rfl
 go_wp2;go_ret;exact gAC
def rO (name:ByteArray):List PEnt->Int
 |[]=>0
 |e::r=>if(e.name.toList==name.toList)=true then e.num else rO name r
def aX (S:PSt) (dir:Int) (name:ByteArray):Int:=if bP S dir<0 then 0 else match S.ins[(bP S dir).toNat]? with|some x=>rO name x.ents|none=>0
theorem iV (S:PSt) (iv ov mv:Value) (dir:Int) (name:ByteArray) (w:World) (h:StRead w iv ov mv S) (hwf:S.wf):
 vR w 118 #[.agg #[iv,ov,mv],.int .i64 dir,.string name] (.int .i64 (aX S dir name)):=by
 have hA:vB w 85 #[.agg #[iv,ov,mv],.int .i64 dir] (.int .i64 (bP S dir)):=λww hb=>aBK S iv ov mv dir ww (h.below hb (zC _)) hwf.1;obtain⟨ai,ni,ci,ao,no,co,am,nm,cm,rfl,rfl,rfl⟩:=h.slices;obtain⟨a,cap,e1,hat⟩:=h.ins_at2;cases e1;have a0:=fE S dir;obtain⟨R,hR⟩:=gAB (aX S dir name);rw[hR];unfold aX at hR;generalize bP S dir=K at hA a0 hR;by_cases hK:K<0
 .rw[zB hK]at hR;subst hR;clear hat h a0 hwf
  unfold vR;go_in;go_wp2_with((go_at_call 85;refine aE (hA _ (bel _ _)) λp=>?_));go_ret;exact gAC
 rw [zA hK]at hR;obtain⟨k,rfl⟩:∃k:Nat,K=k:=⟨K.toNat,by omega⟩;have hk:k<S.ins.length:=by omega
 obtain⟨x,hx⟩:=gAA hk;rw[zJ,hx]at hR;simp only at hR;obtain⟨b,off,ev,rfl,iG0,ho,her,hc⟩:=hat k x hx;obtain⟨ae,ce,rfl,hae⟩:=her.at_;rw[lM]at hc;have a1:=(hwf.2.2.2.1 x (mG hx)).2.1;have HA:=bJ hae hc;have HR:=aC hR;clear hat h a0 hwf her hae hc ho hR hx;unfold vR;go_in;go_wp2_with((go_at_call 85;refine aE (hA _ (bel _ _)) λp=>?_))
 go_loopw[8] (λi wr=>∃(q:Nat),i=.int .i64 q/\q<=x.ents.length/\rO name (x.ents.drop q)=R/\Bl w wr/\Blk wr w.heap.size #[.slice (some ⟨b,off,none⟩) S.ins.length ci,.slice ao no co,.slice am nm cm] 26) (λi _=>(x.ents.length-intOf i).toNat)
 case atStart=>exact⟨0,rfl,by omega,HR.out,bel _ _,(Blk.new w _ 26).junk _⟩
 obtain⟨q,rfl,hq,hre,hb,hblk⟩:=hrel;have iB:Bel w wr:=⟨hb⟩;have iL:=hblk.lt;have s0:=hblk.cell 0;simp at s0;obtain⟨iG,c0,c1,c2,c3⟩:=HA.out.2 wr hb;clear c0 c1 c3;have HB:=aC hblk;clear hblk;by_cases hlt:q<x.ents.length
 .obtain⟨z,hz⟩:=gAA hlt
  obtain⟨be,oe,rfl,iE0,iE,hce⟩:=HA.out.1 wr hb q z.cells (by rw[gM,hz];rfl);have e0:=hce 0 _ rfl;have e1:=hce 1 _ rfl;rw[zN]at e0;rw[cQ hz,rO]at hre;clear hz hce;rcases hpz:(z.name.toList==name.toList)with _|_
  .rw[hpz,zA (by decide)]at hre;have HZ:=aC hre;clear hre;go_wp2
   go_roundw
   case rel=>exact⟨q+1,by go_num,by omega,HZ.out,bel _ _,HB.out⟩
   simp[intOf];omega
  rw[hpz,zB (by decide)]at hre;subst hre;go_wp2;go_ret;exact gAC
 rw[zS (by omega)]at hre;obtain rfl:R=0:=by rw[<-hre];rfl
 go_wp2;go_ret;exact gAC
variable {K n:Int} {S:PSt} {iv mv ov:Value} {w:World}
theorem vK (h:StRead w iv ov mv S) (hf:S.ins.length<=1000000000) (he:bP S n=K):vB w 85 #[.agg #[iv,ov,mv],.int .i64 n] (.int .i64 K):=λww hb=>by have:=aBK S iv ov mv n ww (h.below hb (zC _)) hf;rw[he]at this;exact this
theorem c43 {c f:Int} (h:StRead w iv ov mv S) (hf:S.op.length<=1000000000) (he:oE S c f=K):vB w 43 #[.agg #[iv,ov,mv],.int .i64 c,.int .i64 f] (.int .i64 K):=λww hb=>by have:=aWV S iv ov mv c f ww (h.below hb (zC _)) hf;rw[he]at this;exact this
theorem aZO {d:Int} {n:ByteArray} (h:StRead w iv ov mv S) (hf:S.wf) (he:aX S d n=K):vB w 118 #[.agg #[iv,ov,mv],.int .i64 d,.string n] (.int .i64 K):=λww hb=>by have:=iV S iv ov mv d n ww (h.below hb (zC _)) hf;rw[he]at this;exact this
end
def rP (S:PSt) (n:Int):Bool:=if n<2 then false else match S.made[((n-2)%8).toNat]? with|some m=>decide ((n-2)/8<m)|none=>false
theorem aWW (S:PSt) (iv ov mv:Value) (n:Int) (hn:I64 n) (w:World) (h:StRead w iv ov mv S) (hwf:S.wf):
 vR w 60 #[.agg #[iv,ov,mv],.int .i64 n] (.bool (rP S n)):=by
 obtain⟨ai,ni,ci,ao,no,co,am,nm,cm,rfl,rfl,rfl⟩:=h.slices;obtain⟨a,cap,e1,hat⟩:=h.2.1.at_;rw[lM]at e1;cases e1;have a3:=hwf.2.2.1;obtain⟨R,hR⟩:=gAB (rP S n);rw[hR];unfold rP at hR;clear h hwf;by_cases h2:n<2
 .rw[zB h2]at hR;subst hR;clear hat
  unfold vR;go_in;go_wp2;go_ret;exact gAC
 rw[zA h2]at hR;have a4:=hn.2;have w1:IntKind.i64.wrap (n-2)=n-2:=I64.wrap ⟨by omega,by omega⟩;have w2:(n-2).tmod 8=(n-2)%8:=Int.tmod_eq_emod_of_nonneg (by omega);have w3:(n-2).tdiv 8=(n-2)/8:=Int.tdiv_eq_ediv_of_nonneg (by omega);obtain⟨k,hk⟩:∃k:Nat,(n-2)%8=k:=⟨((n-2)%8).toNat,by omega⟩;obtain⟨d,hd⟩:∃d:Int,(n-2)/8=d:=⟨_,rfl⟩;have a1:IntKind.i64.wrap d=d:=I64.wrap ⟨by omega,by omega⟩;have a5:k<8:=by omega
 have a2:IntKind.i64.wrap (k:Int)=k:=I64.wrap ⟨by omega,by omega⟩;rw[hk,hd,zJ]at hR;rw[hk]at w2;rw[hd]at w3;clear hk hd;by_cases hlt:k<S.made.length
 .obtain⟨m,hm⟩:=gAA hlt
  rw[hm]at hR;simp only at hR;obtain⟨b,off,rfl,iG0,-,hc⟩:=hat w (bel _ _) k (aJ m) (by rw[gM,hm];rfl);have c0:=hc 0 _ rfl;rw[Nat.mul_one,zN]at c0;subst hR;clear hc hat hm hn;have a0:(k:Int)<S.made.length:=by omega
  unfold vR;go_in;go_wp2;go_ret;exact gAC
 rw[getElem?_eq_none (by omega)]at hR;simp only at hR;subst hR;clear hat hn;have a0:¬(k:Int)<S.made.length:=by omega
 unfold vR;go_in;go_wp2;go_ret;exact gAC
def vU (n:Int):List PEnt->Int->Int
 |[],a=>a
 |e::r,a=>vU n r (if (e.num==n)=true then a+1 else a)
def lkI (n:Int):List PIn->Int->Int
 |[],a=>a
 |x::r,a=>lkI n r (if x.dir=true then vU n x.ents a else a)
def bX (S:PSt) (n:Int):Int:=lkI n S.ins 0
theorem aEZ (S:PSt) (iv ov mv:Value) (n:Int) (w:World) (h:StRead w iv ov mv S) (hwf:S.wf):
 vR w 62 #[.agg #[iv,ov,mv],.int .i64 n] (.int .i64 (bX S n)):=by
 obtain⟨ai,ni,ci,ao,no,co,am,nm,cm,rfl,rfl,rfl⟩:=h.slices;obtain⟨a,cap,e1,hat⟩:=h.ins_at2;cases e1;have a2:=hwf.1;have a3:=aC hwf;have a4:=aC hat;clear hat h hwf;obtain⟨R,hR⟩:=gAB (bX S n);rw[hR];unfold bX at hR;have HR:=aC hR;clear hR;unfold vR;go_in;go_wp2
 go_loopw[5,6] (λv i wr=>∃(q:Nat) (m:Int),i=.int .i64 q/\v=.int .i64 m/\0<=m/\m<=1000000000*q/\q<=S.ins.length/\lkI n (S.ins.drop q) m=R/\Bl w wr/\Blk wr w.heap.size #[.slice ai S.ins.length ci,.slice ao no co,.slice am nm cm] 26) (λ_ i _=>(S.ins.length-intOf i).toNat)
 case atStart=>exact⟨0,0,rfl,rfl,by omega,by omega,by omega,HR.out,bel _ _,Blk.new w _ 26⟩
 obtain⟨q,m,rfl,rfl,hm0,hm1,hq,hre,hb,hblk⟩:=hrel;have iB:Bel w wr:=⟨hb⟩;have iL:=hblk.lt;have s0:=hblk.cell 0;simp at s0;by_cases hlt:q<S.ins.length
 .obtain ⟨x,hx⟩:∃x,S.ins[q]? =some x:=⟨_,gE hlt⟩
  obtain⟨b,off,ev,rfl,iG0,ho,her,hc⟩:=a4.out q x hx;obtain⟨ae,ce,rfl,hae⟩:=her.at_;rw[lM]at hc;have a5:=(a3.out.2.2.2.1 x (mG hx)).2.1;have HA:=bJ hae hc;obtain⟨iG,c0,c1,c2,c3⟩:=hc wr hb;have HB:=aC hblk;rw[cQ hx,lkI]at hre;clear her hae hc ho hblk c0 c3 c1 c2 hx;obtain⟨xn,xd,xe,xs⟩:=x;simp only at hre HA a5;rcases xd with _|_
  .rw [zA (by decide)]at hre;obtain⟨_,_,c1,c2,_⟩:=HA.out.2 wr hb;have a0:=aC hre;clear hre;by_cases h0:0<xe.length
   .have a6:(0:Int)<xe.length:=by omega
    go_wp2
    go_loopw[5,7] (λv i wr'=>v=.int .i64 m/\i=.int .i64 0/\wr'=wr) (λ_ i _=>0)
    case atStart=>exact⟨rfl,rfl,rfl⟩
    obtain⟨rfl,rfl,rfl⟩:=hrel;go_wp2;go_roundw
    case rel=>exact⟨q+1,m,by rfl,rfl,hm0,by omega,by omega,a0.out,bel _ _,HB.out⟩
    simp[intOf];omega
   have a6:¬(0:Int)<xe.length:=by omega
   go_wp2
   go_loopw[5,7] (λv i wr'=>v=.int .i64 m/\i=.int .i64 0/\wr'=wr) (λ_ i _=>0)
   case atStart=>exact⟨rfl,rfl,rfl⟩
   obtain⟨rfl,rfl,rfl⟩:=hrel;go_wp2;go_roundw
   case rel=>exact⟨q+1,m,by rfl,rfl,hm0,by omega,by omega,a0.out,bel _ _,HB.out⟩
   simp[intOf];omega
  rw [zB rfl]at hre;have a0:=aC hre;clear hre;go_wp2
  go_loopw[5,7] (λv i wr'=>∃(j:Nat) (m':Int),i=.int .i64 j/\v=.int .i64 m'/\0<=m'/\m'<=1000000000*q+j/\j<=xe.length/\lkI n (S.ins.drop (q+1)) (vU n (xe.drop j) m')=R/\Bl w wr'/\Blk wr' w.heap.size #[.slice (some ⟨b,off,none⟩) S.ins.length ci,.slice ao no co,.slice am nm cm] 26) (λ_ i _=>(xe.length-intOf i).toNat)
  case atStart=>exact⟨0,m,rfl,rfl,by omega,by omega,by omega,a0.out,bel _ _,HB.out⟩
  clear a0 HB iB iL s0 hb iG;obtain⟨j,m',rfl,rfl,hm2,hm3,hj,hre,hb,hblk⟩:=hrel;have iB:Bel w wr:=⟨hb⟩;have iL:=hblk.lt;have s0:=hblk.cell 0;simp at s0;obtain⟨iG,c0,c1,c2,c3⟩:=HA.out.2 wr hb;have HB:=aC hblk;clear hblk c0 c3;by_cases hlj:j<xe.length
  .obtain⟨z,hz⟩:=gAA hlj
   obtain⟨be,oe,rfl,iE0,iE,hce⟩:=HA.out.1 wr hb j z.cells (by rw[gM,hz];rfl);have e1:=hce 1 _ rfl;rw[cQ hz,vU]at hre;clear hz hce;have a1:(j:Int)<xe.length:=by omega
   have w1:IntKind.i64.wrap (m'+1)=m'+1:=I64.wrap ⟨by omega,by omega⟩;rcases hpz:(z.num==n)with _|_
   .rw[hpz,zA (by decide)]at hre;have HZ:=aC hre;clear hre;go_wp2
    go_roundw
    case rel=>exact⟨j+1,m',by rfl,rfl,by omega,by omega,by omega,HZ.out,bel _ _,HB.out⟩
    simp[intOf];omega
   rw[hpz,zB (by decide)]at hre;have HZ:=aC hre;clear hre;go_wp2;go_roundw
   case rel=>exact⟨j+1,m'+1,by rfl,rfl,by omega,by omega,by omega,HZ.out,bel _ _,HB.out⟩
   simp[intOf];omega
  rw[show xe.drop j=[]from zS (by omega),vU]at hre;have a1:¬(j:Int)<xe.length:=by omega
  have HZ:=aC hre;clear hre;go_wp2;go_roundw
  case rel=>exact⟨q+1,m',by rfl,rfl,hm2,by omega,by omega,HZ.out,bel _ _,HB.out⟩
  simp[intOf];omega
 rw[zS (by omega),lkI]at hre;subst hre;go_wp2;go_ret;exact gAC
end Go.Proofs.YtmkapobnfigedaaGreatDoor
