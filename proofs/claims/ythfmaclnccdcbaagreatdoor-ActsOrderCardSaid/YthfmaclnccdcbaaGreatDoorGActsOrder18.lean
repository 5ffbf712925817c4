/- Part of a proof. -/
import Derived.Test.YthfmaclnccdcbaaGreatDoorGActsOrder17
namespace PA
open Go Go.RowKit
theorem sD.mono {P:Program} {o:Oper} {a:Act} {w:World} {X Y:Value→World→Prop} (h:sD P o a w X) (hxy:∀v w',X v w'→Y v w'):sD P o a w Y:=by
 rcases h with ⟨v,w',h1,h2⟩|⟨f,args,w1,h1,h2⟩
 ·exact .inl ⟨v,w',h1,hxy v w' h2⟩
 ·exact .inr ⟨f,args,w1,h1,h2.mono fun e w' ⟨v,e1,h3⟩=>⟨v,e1,hxy v w' h3⟩⟩
theorem sW {P:Program} {W w:World} {A:aC} {o:Oper} {ac:Act} (s y:Operand) (t:TypeId) (ho:o.op=.call { callee:=.builtin .append,args:=#[s,y],argTypes:=#[t,t] })
 (E k Pj:Nat) (z:Value) (ht:P.underlying t=some (.slice E)) (hi:(P.info? E).map (fun i=>(i.zero,i.size,i.bytes))=some (some z,k,Pj)) (hzs:z.cells.size=k)
 {a:Option Addr} {n c:Nat} {xs:List Value} (hs:ac.eval s=.slice a n c) (h:Sat W w (sep (aT E k a n c xs) A))
 {x:Option Addr} {m cc:Nat} (hy:ac.eval y=.slice x m cc) (news:List Value) (hl:news.length=m*k) (hx0:x=none→m=0) (hx:∀b,x=some b→∀j u,news[j]?=some u→w.cell? (b.add j)=some u)
 (h1:∀u∈news,u.oneCell'=true) (hby:(n+m)*Pj≤140737488355328) (h63:n+m≤maxLen):
 sD P o ac w fun v w'=>∃a' c',v=.slice a' (n+m) c'∧Sat W w' (sep (aT E k a' (n+m) c' (xs++news)) A):=by
 obtain⟨i,hi1,hi2,hi3,hi4⟩:=info_parts hi;obtain⟨a',c',w',hr,hS⟩:=uo t o.type E k Pj i z ht hi1 hi2 hi3 hi4 hzs h x m cc news hl hx0 hx h1 h63 hby;exact .inl ⟨_,w',tH s y t t ho (by rw[hs,hy];exact hr),a',c',rfl,hS⟩
structure xA where
 J:Mem
 us:List Value
 a:Option Addr
 n:Nat
 c:Nat
structure Jq (J0:Mem) (pa pb:List Fm) (f:Nat→Option Value) (q:xA):Prop where
 le:Mem.le J0 q.J
 r5:∀v,f 5=some v→∃a n c,v=.slice a n c∧n=pa.length∧(rF.slice 4).rel q.J [.slice a n c] pa
 r11:∀v,f 11=some v→∃a n c,v=.slice a n c∧n=pb.length∧(rF.slice 4).rel q.J [.slice a n c] pb
 e0:∀v,f 0=some v→f 6=none→v=.slice q.a q.n q.c∧q.n=0∧q.us=[]
 e6:∀v,f 6=some v→f 12=none→v=.slice q.a q.n q.c∧q.n=pa.length∧(rF.rows 4).rel q.J q.us pa
 e12:∀v,f 12=some v→v=.slice q.a q.n q.c∧q.n=pa.length+pb.length∧(rF.rows 4).rel q.J q.us (pa++pb)
 e13:∀v,f 13=some v→∃u,f 12=some u∧v=.agg #[.int .i64 4,.int .i64 0,.slice none 0 0,u]
def jR (E:Nat) (f:Nat→Option Value) (q:xA):aC:=match f 0 with|some _=>aT E 4 q.a q.n q.c q.us|none=>emp
def jq (t:TypeId) (f:Nat→Option Value):aC:=match f 14 with|some v=>ex fun g:Nat=>sep (fact (v=.pointer (some ⟨g,0,none⟩))) (blk g (.cells #[.int .i64 0,.int .i64 0,.slice none 0 0,.slice none 0 0] t (0,0)))|none=>emp
def pairT (E:Nat) (t:TypeId) (J0:Mem) (pa pb:List Fm) (Z:aC) (f:Nat→Option Value):aC:=
 ex fun q:xA=>sep (fact (Jq J0 pa pb f q)) (sep (kn q.J) (sep (jR E f q) (sep (jq t f) Z)))
theorem fA {W w:World} {E:Nat} {t:TypeId} {J0:Mem} {pa pb:List Fm} {Z:aC} {f:Nat→Option Value}:Sat W w (pairT E t J0 pa pb Z f)↔∃q,Jq J0 pa pb f q∧Sat W w (sep (kn q.J) (sep (jR E f q) (sep (jq t f) Z))):=by
 unfold pairT;rw[Sat.ex];exact⟨fun ⟨q,h⟩=>⟨q,Sat.fact.1 h⟩,fun ⟨q,h⟩=>⟨q,Sat.fact.2 h⟩⟩
theorem DN {E:Nat} {f:Nat→Option Value} {q:xA} (h:f 0=none):jR E f q=emp:=by unfold jR;rw[h]
theorem nU {E:Nat} {f:Nat→Option Value} {q:xA} {v:Value} (h:f 0=some v):jR E f q=aT E 4 q.a q.n q.c q.us:=by unfold jR;rw[h]
theorem DJ {t:TypeId} {f:Nat→Option Value} (h:f 14=none):jq t f=emp:=by unfold jq;rw[h]
theorem DK {t:TypeId} {f:Nat→Option Value} {v:Value} (h:f 14=some v):jq t f=ex fun g:Nat=>sep (fact (v=.pointer (some ⟨g,0,none⟩))) (blk g (.cells #[.int .i64 0,.int .i64 0,.slice none 0 0,.slice none 0 0] t (0,0))):=by unfold jq;rw[h]
theorem pair_0 {W w w':World} {E:Nat} {t:TypeId} {J0:Mem} {pa pb:List Fm} {Z:aC} {f:Nat→Option Value} {g c:Nat} (h0:f 0=none) (h6:f 6=none) (h12:f 12=none)
 (hs:∀q:xA,Jq J0 pa pb f q→Sat W w (sep (kn q.J) (sep (jq t f) Z))→Sat W w' (sep (aT E 4 (some ⟨g,0,none⟩) 0 c []) (sep (kn q.J) (sep (jq t f) Z)))) (h:Sat W w (pairT E t J0 pa pb Z f)):
 Sat W w' (pairT E t J0 pa pb Z (fG f 0 (.slice (some ⟨g,0,none⟩) 0 c))):=by
 obtain⟨q,hp,h1⟩:=fA.1 h;rw[DN h0,iM] at h1;have h2:=hs q hp h1;refine fA.2 ⟨⟨q.J,[],some ⟨g,0,none⟩,0,c⟩,⟨hp.le,fun v hv=>hp.r5 v (by rwa [aK (by decide)] at hv),fun v hv=>hp.r11 v (by rwa [aK (by decide)] at hv),fun v hv _=>?_,fun v hv _=>?_,fun v hv=>?_,fun v hv=>by rw[aK (by decide)] at hv ⊢;exact hp.e13 v hv⟩,?_⟩
 ·rw[dw] at hv;cases hv;exact⟨rfl,rfl,rfl⟩
 ·rw[aK (by decide),h6] at hv;cases hv
 ·rw[aK (by decide),h12] at hv;cases hv
 ·rw[nU dw]
  have e:jq t (fG f 0 (.slice (some ⟨g,0,none⟩) 0 c))=jq t f:=by unfold jq;rw[aK (by decide)]
  rw[e];exact h2.p1
theorem F8 {W w':World} {E:Nat} {t:TypeId} {J0:Mem} {pa pb:List Fm} {Z:aC} {f:Nat→Option Value} {x:Nat} {v:Value} (hx:x≠0∧x≠6∧x≠12∧x≠14∧x≠13) {q:xA} {J':Mem} (hp:Jq J0 pa pb f q) (hle:Mem.le q.J J')
 (h5:x=5→∃a n c,v=.slice a n c∧n=pa.length∧(rF.slice 4).rel J' [.slice a n c] pa) (h11:x=11→∃a n c,v=.slice a n c∧n=pb.length∧(rF.slice 4).rel J' [.slice a n c] pb)
 (h:Sat W w' (sep (kn J') (sep (jR E f q) (sep (jq t f) Z)))):Sat W w' (pairT E t J0 pa pb Z (fG f x v)):=by
 obtain⟨x0,x6,x12,x14,x13⟩:=hx;refine fA.2 ⟨⟨J',q.us,q.a,q.n,q.c⟩,⟨eG hp.le hle,fun u hu=>?_,fun u hu=>?_,fun u hu h6=>?_,fun u hu h12=>?_,fun u hu=>?_,fun u hu=>by rw[aK (Ne.symm x13)] at hu;rw[aK (Ne.symm x12)];exact hp.e13 u hu⟩,?_⟩
 ·by_cases e:x=5
  ·subst e;rw[dw] at hu;cases hu;exact h5 rfl
  ·rw[aK (Ne.symm e)] at hu
   obtain⟨a,n,c,e1,e2,e3⟩:=hp.r5 u hu;exact⟨a,n,c,e1,e2,(rF.slice 4).mono hle e3⟩
 ·by_cases e:x=11
  ·subst e;rw[dw] at hu;cases hu;exact h11 rfl
  ·rw[aK (Ne.symm e)] at hu
   obtain⟨a,n,c,e1,e2,e3⟩:=hp.r11 u hu;exact⟨a,n,c,e1,e2,(rF.slice 4).mono hle e3⟩
 ·rw[aK (Ne.symm x0)] at hu
  rw[aK (Ne.symm x6)] at h6;exact hp.e0 u hu h6
 ·rw[aK (Ne.symm x6)] at hu
  rw[aK (Ne.symm x12)] at h12;obtain⟨e1,e2,e3⟩:=hp.e6 u hu h12;exact⟨e1,e2,(rF.rows 4).mono hle e3⟩
 ·rw[aK (Ne.symm x12)] at hu
  obtain⟨e1,e2,e3⟩:=hp.e12 u hu;exact⟨e1,e2,(rF.rows 4).mono hle e3⟩
 ·have e1:jq t (fG f x v)=jq t f:=by unfold jq;rw[aK (Ne.symm x14)]
  have e2:jR E (fG f x v) ⟨J',q.us,q.a,q.n,q.c⟩=jR E f q:=by unfold jR;rw[aK (Ne.symm x0)]
  rw[e1,e2];exact h
theorem Xh {W w w':World} {E:Nat} {t:TypeId} {J0:Mem} {pa pb:List Fm} {Z:aC} {f:Nat→Option Value} {g:Nat} (CZ:f 14=none)
 (hs:∀q:xA,Sat W w (sep (kn q.J) (sep (jR E f q) Z))→Sat W w' (sep (blk g (.cells #[.int .i64 0,.int .i64 0,.slice none 0 0,.slice none 0 0] t (0,0))) (sep (kn q.J) (sep (jR E f q) Z)))) (h:Sat W w (pairT E t J0 pa pb Z f)):
 Sat W w' (pairT E t J0 pa pb Z (fG f 14 (.pointer (some ⟨g,0,none⟩)))):=by
 obtain⟨q,hp,h1⟩:=fA.1 h;rw[DJ CZ,iM] at h1;have h2:=hs q h1;refine fA.2 ⟨q,⟨hp.le,fun v hv=>hp.r5 v (by rwa [aK (by decide)] at hv),fun v hv=>hp.r11 v (by rwa [aK (by decide)] at hv),fun v hv h6=>hp.e0 v (by rwa [aK (by decide)] at hv) (by rwa [aK (by decide)] at h6),fun v hv h12=>hp.e6 v (by rwa [aK (by decide)] at hv) (by rwa [aK (by decide)] at h12),fun v hv=>hp.e12 v (by rwa [aK (by decide)] at hv),fun v hv=>by rw[aK (by decide)] at hv ⊢;exact hp.e13 v hv⟩,?_⟩;have e2:jR E (fG f 14 (.pointer (some ⟨g,0,none⟩))) q=jR E f q:=by unfold jR;rw[aK (by decide)]
 rw[e2,DK dw];have h3:Sat W w' (sep (ex fun g':Nat=>sep (fact (Value.pointer (some ⟨g,0,none⟩)=.pointer (some ⟨g',0,none⟩))) (blk g' (.cells #[.int .i64 0,.int .i64 0,.slice none 0 0,.slice none 0 0] t (0,0)))) (sep (kn q.J) (sep (jR E f q) Z))):=by
  rw[fK,Sat.ex];exact⟨g,by rw[aj];exact Sat.fact.2 ⟨rfl,h2⟩⟩
 exact (Sat.q2 h3)
theorem La {W w':World} {E:Nat} {t:TypeId} {J0:Mem} {pa pb:List Fm} {Z:aC} {f:Nat→Option Value} {x:Nat} {a':Option Addr} {n' c':Nat} {us':List Value} (hx:x=6∨x=12) {q:xA} (hp:Jq J0 pa pb f q) {v0:Value} (h0:f 0=some v0)
 (h6:x=6→f 12=none∧n'=pa.length∧(rF.rows 4).rel q.J us' pa) (h13:f 13=none) (h12:x=12→(f 6).isSome=true∧n'=pa.length+pb.length∧(rF.rows 4).rel q.J us' (pa++pb))
 (h:Sat W w' (sep (aT E 4 a' n' c' us') (sep (kn q.J) (sep (jq t f) Z)))):Sat W w' (pairT E t J0 pa pb Z (fG f x (.slice a' n' c'))):=by
 have x0:(0:Nat)≠x:=by rcases hx with rfl|rfl<;>decide
 have x5:(5:Nat)≠x:=by rcases hx with rfl|rfl<;>decide
 have x11:(11:Nat)≠x:=by rcases hx with rfl|rfl<;>decide
 have x14:(14:Nat)≠x:=by rcases hx with rfl|rfl<;>decide
 have x13:(13:Nat)≠x:=by rcases hx with rfl|rfl<;>decide
 refine fA.2 ⟨⟨q.J,us',a',n',c'⟩,⟨hp.le,fun v hv=>hp.r5 v (by rwa [aK x5] at hv),fun v hv=>hp.r11 v (by rwa [aK x11] at hv),fun v hv e6=>?_,fun v hv e12=>?_,fun v hv=>?_,fun v hv=>by rw[aK x13,h13] at hv;cases hv⟩,?_⟩
 ·rcases hx with rfl|rfl
  ·rw[dw] at e6;cases e6
  ·rw[aK (by decide)] at e6
   have:=(h12 rfl).1;rw[e6] at this;cases this
 ·rcases hx with rfl|rfl
  ·rw[dw] at hv;cases hv
   exact⟨rfl,(h6 rfl).2.1,(h6 rfl).2.2⟩
  ·rw[dw] at e12;cases e12
 ·rcases hx with rfl|rfl
  ·rw[aK (by decide),(h6 rfl).1] at hv;cases hv
  ·rw[dw] at hv;cases hv
   exact⟨rfl,(h12 rfl).2.1,(h12 rfl).2.2⟩
 ·have e1:jq t (fG f x (.slice a' n' c'))=jq t f:=by unfold jq;rw[aK x14]
  have e2:jR E (fG f x (.slice a' n' c')) ⟨q.J,us',a',n',c'⟩=aT E 4 a' n' c' us':=nU (v:=v0) (by rw[aK x0];exact h0);rw[e1,e2];exact h.p1
theorem Xg {W w:World} {E:Nat} {t:TypeId} {J0:Mem} {pa pb:List Fm} {Z:aC} {f:Nat→Option Value} {u:Value} (h12:f 12=some u) (h:Sat W w (pairT E t J0 pa pb Z f)):
 Sat W w (pairT E t J0 pa pb Z (fG f 13 (.agg #[.int .i64 4,.int .i64 0,.slice none 0 0,u]))):=by
 obtain⟨q,hp,h1⟩:=fA.1 h;refine fA.2 ⟨q,⟨hp.le,fun v hv=>hp.r5 v (by rwa [aK (by decide)] at hv),fun v hv=>hp.r11 v (by rwa [aK (by decide)] at hv),fun v hv h6=>hp.e0 v (by rwa [aK (by decide)] at hv) (by rwa [aK (by decide)] at h6),fun v hv h12=>hp.e6 v (by rwa [aK (by decide)] at hv) (by rwa [aK (by decide)] at h12),fun v hv=>hp.e12 v (by rwa [aK (by decide)] at hv),fun v hv=>?_⟩,?_⟩
 ·rw[dw] at hv;cases hv
  exact⟨u,by rw[aK (by decide)];exact h12,rfl⟩
 ·have e1:jq t (fG f 13 (.agg #[.int .i64 4,.int .i64 0,.slice none 0 0,u]))=jq t f:=by unfold jq;rw[aK (by decide)]
  have e2:jR E (fG f 13 (.agg #[.int .i64 4,.int .i64 0,.slice none 0 0,u])) q=jR E f q:=by unfold jR;rw[aK (by decide)]
  rw[e1,e2];exact h1
theorem PD {W w:World} {A:aC} {g:Nat} {a b c d:Value} {t:TypeId} (h:Sat W w (sep (blk g (.cells #[a,b,c,d] t (0,0))) A)) (x y u v:Value):
 Sat W ((((w.setCell ⟨g,0,none⟩ x).setCell ⟨g,1,none⟩ y).setCell ⟨g,2,none⟩ u).setCell ⟨g,3,none⟩ v) (sep (blk g (.cells #[x,y,u,v] t (0,0))) A):=by
 have h1:=(((h.setCell 0 x).setCell 1 y).setCell 2 u).setCell 3 v;simpa using h1
end PA
namespace PA
open Go Go.RowKit
theorem vw {f:Nat→Option Value} {x:Nat} {v:Value} (hx:f x=none) {y:Nat} {u:Value} (h:f y=some u):fG f x v y=some u:=by
 rw[aK (fun e=>by rw[e,hx] at h;cases h)];exact h
structure PrF (J0:Mem) (pa pb:List Fm) (tS:TypeId) (f:Nat→Option Value) (J:Mem):Prop where
 le:Mem.le J0 J
 p1:∀v,f 1=some v→∃a n c,v=.slice a n c∧n=pa.length∧(rF.slice 4).rel J [.slice a n c] pa
 p3:∀v,f 3=some v→∃a n c,v=.slice a n c∧n=pb.length∧(rF.slice 4).rel J [.slice a n c] pb
 p4:∀v,f 4=some v→∃g u1 u3,f 1=some u1∧f 3=some u3∧v=.slice (some ⟨g,0,none⟩) 2 2∧J g=some (.cells #[u1,u3] tS (0,0))
 p5:∀v,f 5=some v→∃a n c,v=.slice a n c∧(rF.slice 4).rel J [.slice a n c] (pa++pb)
 p6:∀v,f 6=some v→∃u,f 5=some u∧v=.agg #[.int .i64 4,.int .i64 0,.slice none 0 0,u]
theorem PrF.set {J0 J J':Mem} {pa pb:List Fm} {tS:TypeId} {f:Nat→Option Value} {x:Nat} {v:Value} (hp:PrF J0 pa pb tS f J) (hx:f x=none) (hle:Mem.le J J')
 (h1:x=1→∃a n c,v=.slice a n c∧n=pa.length∧(rF.slice 4).rel J' [.slice a n c] pa)
 (h3:x=3→∃a n c,v=.slice a n c∧n=pb.length∧(rF.slice 4).rel J' [.slice a n c] pb)
 (h4:x=4→∃g u1 u3,f 1=some u1∧f 3=some u3∧v=.slice (some ⟨g,0,none⟩) 2 2∧J' g=some (.cells #[u1,u3] tS (0,0)))
 (h5:x=5→∃a n c,v=.slice a n c∧(rF.slice 4).rel J' [.slice a n c] (pa++pb))
 (h6:x=6→∃u,f 5=some u∧v=.agg #[.int .i64 4,.int .i64 0,.slice none 0 0,u]):PrF J0 pa pb tS (fG f x v) J':=by
 refine⟨eG hp.le hle,fun u hu=>?_,fun u hu=>?_,fun u hu=>?_,fun u hu=>?_,fun u hu=>?_⟩
 ·by_cases e:x=1
  ·subst e;rw[dw] at hu;cases hu;exact h1 rfl
  ·rw[aK (Ne.symm e)] at hu
   obtain⟨a,n,c,e1,e2,e3⟩:=hp.p1 u hu;exact⟨a,n,c,e1,e2,(rF.slice 4).mono hle e3⟩
 ·by_cases e:x=3
  ·subst e;rw[dw] at hu;cases hu;exact h3 rfl
  ·rw[aK (Ne.symm e)] at hu
   obtain⟨a,n,c,e1,e2,e3⟩:=hp.p3 u hu;exact⟨a,n,c,e1,e2,(rF.slice 4).mono hle e3⟩
 ·by_cases e:x=4
  ·subst e;rw[dw] at hu;cases hu
   obtain⟨g,u1,u3,e1,e2,e3,e4⟩:=h4 rfl;exact⟨g,u1,u3,vw hx e1,vw hx e2,e3,e4⟩
  ·rw[aK (Ne.symm e)] at hu
   obtain⟨g,u1,u3,e1,e2,e3,e4⟩:=hp.p4 u hu;exact⟨g,u1,u3,vw hx e1,vw hx e2,e3,hle _ _ e4⟩
 ·by_cases e:x=5
  ·subst e;rw[dw] at hu;cases hu;exact h5 rfl
  ·rw[aK (Ne.symm e)] at hu
   obtain⟨a,n,c,e1,e2⟩:=hp.p5 u hu;exact⟨a,n,c,e1,(rF.slice 4).mono hle e2⟩
 ·by_cases e:x=6
  ·subst e;rw[dw] at hu;cases hu
   obtain⟨u,e1,e2⟩:=h6 rfl;exact⟨u,vw hx e1,e2⟩
  ·rw[aK (Ne.symm e)] at hu
   obtain⟨u',e1,e2⟩:=hp.p6 u hu;exact⟨u',vw hx e1,e2⟩
def RS (t:TypeId) (f:Nat→Option Value):aC:=match f 7 with|some v=>ex fun g:Nat=>sep (fact (v=.pointer (some ⟨g,0,none⟩))) (blk g (.cells #[.int .i64 0,.int .i64 0,.slice none 0 0,.slice none 0 0] t (0,0)))|none=>emp
def prT (t tS:TypeId) (J0:Mem) (pa pb:List Fm) (Z:aC) (f:Nat→Option Value):aC:=
 ex fun J:Mem=>sep (fact (PrF J0 pa pb tS f J)) (sep (kn J) (sep (RS t f) Z))
section
variable {W w w':World} {t tS:TypeId} {J0:Mem} {pa pb:List Fm} {Z:aC} {f:Nat→Option Value}
theorem qW:Sat W w (prT t tS J0 pa pb Z f)↔∃J,PrF J0 pa pb tS f J∧Sat W w (sep (kn J) (sep (RS t f) Z)):=by
 unfold prT;rw[Sat.ex];exact⟨fun ⟨q,h⟩=>⟨q,Sat.fact.1 h⟩,fun ⟨q,h⟩=>⟨q,Sat.fact.2 h⟩⟩
theorem uh {x:Nat} {v:Value} (hx:x≠7) {J':Mem} (hp:PrF J0 pa pb tS (fG f x v) J') (h:Sat W w' (sep (kn J') (sep (RS t f) Z))):Sat W w' (prT t tS J0 pa pb Z (fG f x v)):=by
 refine qW.2 ⟨J',hp,?_⟩;have e:RS t (fG f x v)=RS t f:=by unfold RS;rw[aK (Ne.symm hx)]
 rw[e];exact h
theorem prT_7 {g:Nat} (h7:f 7=none) (hs:∀J,Sat W w (sep (kn J) Z)→Sat W w' (sep (blk g (.cells #[.int .i64 0,.int .i64 0,.slice none 0 0,.slice none 0 0] t (0,0))) (sep (kn J) Z))) (h:Sat W w (prT t tS J0 pa pb Z f)):
 Sat W w' (prT t tS J0 pa pb Z (fG f 7 (.pointer (some ⟨g,0,none⟩)))):=by
 obtain⟨J,hp,h1⟩:=qW.1 h;have e0:RS t f=emp:=by unfold RS;rw[h7]
 rw[e0,iM] at h1;have h2:=hs J h1;refine qW.2 ⟨J,hp.set h7 (Mem.le_refl _) (fun e=>by cases e) (fun e=>by cases e) (fun e=>by cases e) (fun e=>by cases e) (fun e=>by cases e),?_⟩;have e1:RS t (fG f 7 (.pointer (some ⟨g,0,none⟩)))=ex fun g':Nat=>sep (fact (Value.pointer (some ⟨g,0,none⟩)=.pointer (some ⟨g',0,none⟩))) (blk g' (.cells #[.int .i64 0,.int .i64 0,.slice none 0 0,.slice none 0 0] t (0,0))):=by unfold RS;rw[dw]
 rw[e1];have h3:Sat W w' (sep (ex fun g':Nat=>sep (fact (Value.pointer (some ⟨g,0,none⟩)=.pointer (some ⟨g',0,none⟩))) (blk g' (.cells #[.int .i64 0,.int .i64 0,.slice none 0 0,.slice none 0 0] t (0,0)))) (sep (kn J) Z)):=by
  rw[fK,Sat.ex];exact⟨g,by rw[aj];exact Sat.fact.2 ⟨rfl,h2⟩⟩
 exact h3.p1
theorem F5 {J:Mem} {A:aC} (o:Array Value) (E:TypeId) (h:Sat W w (sep (kn J) A)):∃J',Mem.le J J'∧J' w.heap.size=some (.cells o E (0,0))∧Sat W (w.alloc (.cells o E)) (sep (kn J') A):=by
 have h1:=(h.alloc (.cells o E)).settle;exact h1.learn
end
structure Qr where
 J:Mem
 a:Option Addr
 c:Nat
structure VN (J0:Mem) (n:Nat) (cs:List Value) (tE:TypeId) (a0:Option Addr) (c0:Nat) (f:Nat→Option Value) (q:Qr):Prop where
 le:Mem.le J0 q.J
 p0:∀v,f 0=some v→v=.slice a0 n c0
 p1:∀v,f 1=some v→v=.agg cs.toArray
 p2:∀v,f 2=some v→v=.int .i64 (n:Nat)
 p3:∀v,f 3=some v→∃g,v=.slice (some ⟨g,0,none⟩) 1 1∧q.J g=some (.cells #[.int .i64 0,.int .i64 0,.slice none 0 0,.slice none 0 0] tE (0,0))
 p4:∀v,f 4=some v→v=.slice q.a (n+1) q.c
 p5:∀v,f 5=some v→∃g,q.a=some ⟨g,0,none⟩∧v=.pointer (some ⟨g,n*4,none⟩)
theorem VN.set {J0:Mem} {n:Nat} {cs:List Value} {tE:TypeId} {a0:Option Addr} {c0:Nat} {f:Nat→Option Value} {q q':Qr} {x:Nat} {v:Value} (hp:VN J0 n cs tE a0 c0 f q) (hle:Mem.le q.J q'.J)
 (ha:x≠4→q'.a=q.a∧q'.c=q.c) (h45:x=4→f 5=none) (h0:x=0→v=.slice a0 n c0) (h1:x=1→v=.agg cs.toArray) (h2:x=2→v=.int .i64 (n:Nat))
 (h3:x=3→∃g,v=.slice (some ⟨g,0,none⟩) 1 1∧q'.J g=some (.cells #[.int .i64 0,.int .i64 0,.slice none 0 0,.slice none 0 0] tE (0,0)))
 (h4:x=4→v=.slice q'.a (n+1) q'.c) (h5:x=5→∃g,q.a=some ⟨g,0,none⟩∧v=.pointer (some ⟨g,n*4,none⟩)):VN J0 n cs tE a0 c0 (fG f x v) q':=by
 refine⟨eG hp.le hle,fun u hu=>?_,fun u hu=>?_,fun u hu=>?_,fun u hu=>?_,fun u hu=>?_,fun u hu=>?_⟩
 ·by_cases e:x=0
  ·subst e;rw[dw] at hu;cases hu;exact h0 rfl
  ·rw[aK (Ne.symm e)] at hu;exact hp.p0 u hu
 ·by_cases e:x=1
  ·subst e;rw[dw] at hu;cases hu;exact h1 rfl
  ·rw[aK (Ne.symm e)] at hu;exact hp.p1 u hu
 ·by_cases e:x=2
  ·subst e;rw[dw] at hu;cases hu;exact h2 rfl
  ·rw[aK (Ne.symm e)] at hu;exact hp.p2 u hu
 ·by_cases e:x=3
  ·subst e;rw[dw] at hu;cases hu;exact h3 rfl
  ·rw[aK (Ne.symm e)] at hu
   obtain⟨g,e1,e2⟩:=hp.p3 u hu;exact⟨g,e1,hle _ _ e2⟩
 ·by_cases e:x=4
  ·subst e;rw[dw] at hu;cases hu;exact h4 rfl
  ·rw[aK (Ne.symm e)] at hu
   rw[(ha e).1,(ha e).2];exact hp.p4 u hu
 ·by_cases e:x=5
  ·subst e;rw[dw] at hu;cases hu
   rw[(ha (by decide)).1];exact h5 rfl
  ·rw[aK (Ne.symm e)] at hu
   by_cases e4:x=4
   ·rw[h45 e4] at hu;cases hu
   ·rw[(ha e4).1];exact hp.p5 u hu
def YL:List Value:=[.int .i64 0,.int .i64 0,.slice none 0 0,.slice none 0 0]
def MH (O:Nat) (tO:TypeId) (n:Nat) (a0:Option Addr) (c0:Nat) (f:Nat→Option Value) (q:Qr):aC:=blk O (.cells #[bif (f 7).isSome then .slice q.a (n+1) q.c else .slice a0 n c0] tO (0,0))
def MI (E n:Nat) (a0:Option Addr) (c0:Nat) (vs cs:List Value) (f:Nat→Option Value) (q:Qr):aC:=
 bif (f 4).isSome then aT E 4 q.a (n+1) q.c (vs++bif (f 6).isSome then cs else YL) else aT E 4 a0 n c0 vs
def YK (J0:Mem) (O:Nat) (tO E:TypeId) (n:Nat) (a0:Option Addr) (c0:Nat) (vs cs:List Value) (Z:aC) (f:Nat→Option Value):aC:=
 ex fun q:Qr=>sep (fact (VN J0 n cs E a0 c0 f q)) (sep (kn q.J) (sep (MH O tO n a0 c0 f q) (sep (MI E n a0 c0 vs cs f q) Z)))
section
variable {W w w':World} {J0:Mem} {O:Nat} {tO E:TypeId} {n:Nat} {a0:Option Addr} {c0:Nat} {vs cs:List Value} {Z:aC} {f:Nat→Option Value}
theorem qU:Sat W w (YK J0 O tO E n a0 c0 vs cs Z f)↔∃q,VN J0 n cs E a0 c0 f q∧Sat W w (sep (kn q.J) (sep (MH O tO n a0 c0 f q) (sep (MI E n a0 c0 vs cs f q) Z))):=by
 unfold YK;rw[Sat.ex];exact⟨fun ⟨q,h⟩=>⟨q,Sat.fact.1 h⟩,fun ⟨q,h⟩=>⟨q,Sat.fact.2 h⟩⟩
theorem ug {x:Nat} {v:Value} (hx:x≠4∧x≠6∧x≠7) {q q':Qr} (ha:q'.a=q.a∧q'.c=q.c) (hp:VN J0 n cs E a0 c0 (fG f x v) q') (h:Sat W w' (sep (kn q'.J) (sep (MH O tO n a0 c0 f q) (sep (MI E n a0 c0 vs cs f q) Z)))):
 Sat W w' (YK J0 O tO E n a0 c0 vs cs Z (fG f x v)):=by
 refine qU.2 ⟨q',hp,?_⟩;have e1:MH O tO n a0 c0 (fG f x v) q'=MH O tO n a0 c0 f q:=by unfold MH;rw[aK (Ne.symm hx.2.2),ha.1,ha.2]
 have e2:MI E n a0 c0 vs cs (fG f x v) q'=MI E n a0 c0 vs cs f q:=by unfold MI;rw[aK (Ne.symm hx.1),aK (Ne.symm hx.2.1),ha.1,ha.2]
 rw[e1,e2];exact h
theorem Iw {q:Qr} (h:f 7=none):MH O tO n a0 c0 f q=blk O (.cells #[.slice a0 n c0] tO (0,0)):=by unfold MH;rw[h];rfl
theorem Oy {q:Qr} (h:f 4=none):MI E n a0 c0 vs cs f q=aT E 4 a0 n c0 vs:=by unfold MI;rw[h];rfl
theorem UG {q:Qr} {v:Value} (h:f 4=some v) (h6:f 6=none):MI E n a0 c0 vs cs f q=aT E 4 q.a (n+1) q.c (vs++YL):=by unfold MI;rw[h,h6];rfl
theorem YJ {q:Qr} {v u:Value} (h:f 4=some v) (h6:f 6=some u):MI E n a0 c0 vs cs f q=aT E 4 q.a (n+1) q.c (vs++cs):=by unfold MI;rw[h,h6];rfl
theorem owT_4 {q:Qr} {a':Option Addr} {c':Nat} (hp:VN J0 n cs E a0 c0 f q) (h5:f 5=none) (h6:f 6=none) (h7:f 7=none)
 (h:Sat W w' (sep (aT E 4 a' (n+1) c' (vs++YL)) (sep (kn q.J) (sep (blk O (.cells #[.slice a0 n c0] tO (0,0))) Z)))):Sat W w' (YK J0 O tO E n a0 c0 vs cs Z (fG f 4 (.slice a' (n+1) c'))):=by
 refine qU.2 ⟨⟨q.J,a',c'⟩,hp.set (Mem.le_refl _) (fun e=>absurd rfl e) (fun _=>h5) (fun e=>by cases e) (fun e=>by cases e) (fun e=>by cases e) (fun e=>by cases e) (fun _=>rfl) (fun e=>by cases e),?_⟩;rw[Iw (by rw[aK (by decide)];exact h7),UG dw (by rw[aK (by decide)];exact h6)];simpa only[aA,ay,aj] using h
theorem owT_7 {q:Qr} {v:Value} (hp:VN J0 n cs E a0 c0 f q)
 (h:Sat W w' (sep (blk O (.cells #[.slice q.a (n+1) q.c] tO (0,0))) (sep (kn q.J) (sep (MI E n a0 c0 vs cs f q) Z)))):Sat W w' (YK J0 O tO E n a0 c0 vs cs Z (fG f 7 v)):=by
 refine qU.2 ⟨q,hp.set (Mem.le_refl _) (fun _=>⟨rfl,rfl⟩) (fun e=>by cases e) (fun e=>by cases e) (fun e=>by cases e) (fun e=>by cases e) (fun e=>by cases e) (fun e=>by cases e) (fun e=>by cases e),?_⟩;have e1:MH O tO n a0 c0 (fG f 7 v) q=blk O (.cells #[.slice q.a (n+1) q.c] tO (0,0)):=by unfold MH;rw[dw];rfl
 have e2:MI E n a0 c0 vs cs (fG f 7 v) q=MI E n a0 c0 vs cs f q:=by unfold MI;rw[aK (by decide),aK (by decide)]
 rw[e1,e2];exact h.p1
theorem owT_6 {q:Qr} {v u:Value} (hp:VN J0 n cs E a0 c0 f q) (h4:f 4=some u)
 (h:Sat W w' (sep (aT E 4 q.a (n+1) q.c (vs++cs)) (sep (kn q.J) (sep (MH O tO n a0 c0 f q) Z)))):Sat W w' (YK J0 O tO E n a0 c0 vs cs Z (fG f 6 v)):=by
 refine qU.2 ⟨q,hp.set (Mem.le_refl _) (fun _=>⟨rfl,rfl⟩) (fun e=>by cases e) (fun e=>by cases e) (fun e=>by cases e) (fun e=>by cases e) (fun e=>by cases e) (fun e=>by cases e) (fun e=>by cases e),?_⟩;have e1:MH O tO n a0 c0 (fG f 6 v) q=MH O tO n a0 c0 f q:=by unfold MH;rw[aK (by decide)]
 rw[e1,YJ (u:=v) (by rw[aK (by decide)];exact h4) dw];simpa only[aA,ay,aj] using h
theorem F7 {A:aC} {a:Option Addr} {m c:Nat} {xs:List Value} (z0 z1 z2 z3 y0 y1 y2 y3:Value) (hl:xs.length=m*4) (h:Sat W w (sep (aT E 4 a (m+1) c (xs++[z0,z1,z2,z3])) A)):
 ∃g,a=some ⟨g,0,none⟩∧(w.cell? ⟨g,m*4,none⟩=some z0∧w.cell? ⟨g,m*4+1,none⟩=some z1∧w.cell? ⟨g,m*4+2,none⟩=some z2∧w.cell? ⟨g,m*4+3,none⟩=some z3)∧(∀i,w.frozen? ⟨g,i,none⟩=false) ∧
  Sat W ((((w.setCell ⟨g,m*4,none⟩ y0).setCell ⟨g,m*4+1,none⟩ y1).setCell ⟨g,m*4+2,none⟩ y2).setCell ⟨g,m*4+3,none⟩ y3) (sep (aT E 4 a (m+1) c (xs++[y0,y1,y2,y3])) A):=by
 rcases h.gJ with ⟨_,e,_⟩|⟨g,cur,rfl,h1,h2,h3,h4,h5,hS⟩
 ·cases e
 ·have hsz:m*4+3<cur.size:=by omega
  have hcur:cur.toList=(xs++[z0,z1,z2,z3])++cur.toList.drop ((m+1)*4):=by rw[←h5,List.take_append_drop]
  have hat:∀i z,(xs++[z0,z1,z2,z3])[i]?=some z→cur[i]?=some z:=fun i z hz=>by
   rw[←Array.getElem?_toList,hcur,List.getElem?_append_left (List.getElem?_eq_some_iff.1 hz).1];exact hz
  have hi:∀j z,[z0,z1,z2,z3][j]?=some z→(xs++[z0,z1,z2,z3])[m*4+j]?=some z:=fun j z hz=>by
   rw[List.getElem?_append_right (by omega),show m*4+j-xs.length=j by omega];exact hz
  refine⟨g,rfl,⟨?_,?_,?_,?_⟩,fun i=>hS.aH i,?_⟩
  ·rw[hS.cell (m*4)];exact hat _ _ (hi 0 z0 rfl)
  ·rw[hS.cell (m*4+1)];exact hat _ _ (hi 1 z1 rfl)
  ·rw[hS.cell (m*4+2)];exact hat _ _ (hi 2 z2 rfl)
  ·rw[hS.cell (m*4+3)];exact hat _ _ (hi 3 z3 rfl)
  ·refine ((((hS.setCell (m*4) y0).setCell (m*4+1) y1).setCell (m*4+2) y2).setCell (m*4+3) y3).kT (m+1) c 4 _ (by simp[hl];omega) h2 h3 (by simp[h4]) ?_
   simp only[Array.toList_setIfInBounds];rw[hcur];have e0:m*4=xs.length:=hl.symm;rw[e0];simp only[List.append_assoc];have key:∀(j:Nat) (l:List Value) (v:Value),(xs++l).set (xs.length+j) v=xs++l.set j v:=fun j l v=>by
    rw[List.set_append_right _ _ (by omega),Nat.add_sub_cancel_left]
   have aer:∀(l:List Value) (v:Value),(xs++l).set xs.length v=xs++l.set 0 v:=fun l v=>key 0 l v
   rw[aer,key,key,key];have e4:(m+1)*4=xs.length+4:=by omega
   rw[e4,List.take_length_add_append];rfl
end
end PA
namespace PA
open Go Go.RowKit
theorem Fm.OT:∀(f g:Fm),g∈f.dL→∀x∈g.nodes,x∈f.nodes:=by
 intro f;refine Fm.ind (P:=fun f=>∀g:Fm,g∈f.dL→∀x∈g.nodes,x∈f.nodes) (fun o n i k ih=>?_) f;intro g hg x hx;rw[Fm.dL] at hg;split at hg
 ·have key:∀(l:List Fm),(∀f∈l,∀g,g∈f.dL→∀x∈g.nodes,x∈f.nodes)→g∈Fm.aW l→x∈Fm.bQ l:=by
   intro l
   induction l with
   | nil=>intro _ h;simp[Fm.aW] at h
   | cons y l ihl=>
    intro h1 h2;rw[Fm.aW,List.mem_append] at h2;rw[Fm.bQ,List.mem_append];rcases h2 with h2|h2
    ·exact .inl (h1 y (List.mem_cons_self ..) g h2 x hx)
    ·exact .inr (ihl (fun f hf=>h1 f (List.mem_cons_of_mem _ hf)) h2)
  rw[Fm.nodes];exact List.mem_cons_of_mem _ (key k ih hg)
 ·rw[List.mem_singleton.1 hg] at hx;exact hx
theorem Fm.Ld (f g:Fm) (hg:g∈f.parts):∀x∈g.nodes,x∈f.nodes:=by
 obtain⟨o,n,i,k⟩:=f;intro x hx;have hg':g∈if o=4 then k else [Fm.mk o n i k]:=hg
 split at hg'
 ·rw[Fm.nodes];exact List.mem_cons_of_mem _ (Fm.Dv hg' hx)
 ·rw[List.mem_singleton.1 hg'] at hx;exact hx
theorem Fm.wO {k:List Fm} {x:Fm} (h:x∈Fm.bQ k):∃g∈k,x∈g.nodes:=by
 induction k with
 | nil=>simp[Fm.bQ] at h
 | cons g k ih=>
  rw[Fm.bQ,List.mem_append] at h;rcases h with h|h
  ·exact⟨g,List.mem_cons_self ..,h⟩
  ·obtain⟨y,hy,hx⟩:=ih h
   exact⟨y,List.mem_cons_of_mem _ hy,hx⟩
theorem zH:∀{x t y:List Fm},dZ x t=some y→∀f∈y,∃a∈x,∃b∈t,f=eP a b
 | [],t,y,h,f,hf=>by cases h;cases hf
 | a::x,t,y,h,f,hf=>by
  rw[dZ] at h;split at h
  ·cases hc:dZ x t with
   | none=>rw[hc] at h;cases h
   | some z=>
    rw[hc] at h;simp only[Option.map_some,Option.some.injEq] at h;subst h;rw[List.mem_append] at hf;rcases hf with hf|hf
    ·obtain⟨b,hb,rfl⟩:=List.mem_map.1 hf
     exact⟨a,List.mem_cons_self ..,b,hb,rfl⟩
    ·obtain⟨a',ha',b,hb,e⟩:=zH hc f hf
     exact⟨a',List.mem_cons_of_mem _ ha',b,hb,e⟩
  ·cases h
theorem Fz {Q:Fm→Prop} (hQ:∀a b,Q a→Q b→Q (eP a b)) {of:Nat→Option (List Fm)} {own:List Fm} (hown:∀f∈own,Q f) (hof:∀r y,of r=some y→∀f∈y,Q f):∀{rs:List Int} {out y:List Fm},(∀f∈out,Q f)→dX of own rs out=some y→∀f∈y,Q f
 | [],out,y,ho,h,f,hf=>by cases h;exact ho f hf
 | r::rs,out,y,ho,h,f,hf=>by
  rw[dX] at h;cases hr:of r.toNat with
  | none=>rw[hr] at h;cases h
  | some x=>
   rw[hr] at h;simp only at h;split at h
   ·cases h
   ·cases hc:dZ x own with
    | none=>rw[hc] at h;cases h
    | some z=>
     rw[hc] at h;simp only at h;refine Fz hQ hown hof (fun f hf=>?_) h f hf;rw[List.mem_append] at hf;rcases hf with hf|hf
     ·exact ho f hf
     ·obtain⟨a,ha,b,hb,rfl⟩:=zH hc f hf
      exact hQ a b (hof _ _ hr a ha) (hown b hb)
theorem altC_Q {Q:Fm→Prop} (hQ:∀a b,Q a→Q b→Q (eP a b)) {of:Nat→Option (List Fm)} {c:Cl} (hown:∀f∈c.body.dL,Q f) (hof:∀r y,of r=some y→∀f∈y,Q f) {y:List Fm} (h:rX of c=some y):∀f∈y,Q f:=by
 unfold rX at h;split at h
 ·split at h
  ·cases h;exact hown
  ·cases h
 ·exact Fz hQ hown hof (fun f hf=>by cases hf) h
theorem altN_Q {Q:Fm→Prop} (hQ:∀a b,Q a→Q b→Q (eP a b)) {l:List Cl} (hown:∀c∈l,∀f∈c.body.dL,Q f) (k:Nat):∀y,fJ l k=some y→∀f∈y,Q f:=by
 induction k using Nat.strongRecOn with
 | ind k ih=>
  intro y h;cases hc:l[k]? with
  | none=>rw[fJ,hc] at h;cases h
  | some c=>
   rw[AL hc] at h;refine altC_Q hQ (hown c (List.mem_of_getElem? hc)) (fun r y hr=>?_) h;split at hr
   ·rename_i hlt;exact ih r hlt y hr
   ·cases hr
end PA
namespace Go.Proofs.YthfmaclnccdcbaaGreatDoor
open Go.RowKit PA
def Jh (f:Fm):Prop:=∀g∈f.nodes,∀x∈g.ins,Jg x
theorem Jh.dL {f g:Fm} (h:Jh f) (hg:g∈f.dL):Jh g:=fun x hx=>h x (Fm.OT f g hg x hx)
theorem Jh.parts {f g:Fm} (h:Jh f) (hg:g∈f.parts):Jh g:=fun x hx=>h x (Fm.Ld f g hg x hx)
theorem Jh.pair {a b:Fm} (ha:Jh a) (hb:Jh b):Jh (eP a b):=by
 intro g hg x hx;rw[eP,Fm.nodes] at hg;rcases List.mem_cons.1 hg with rfl|hg
 ·cases hx
 ·obtain⟨y,hy,QO⟩:=Fm.wO hg
  rcases List.mem_append.1 hy with hy|hy
  ·exact ha.parts hy g QO x hx
  ·exact hb.parts hy g QO x hx
end Go.Proofs.YthfmaclnccdcbaaGreatDoor
