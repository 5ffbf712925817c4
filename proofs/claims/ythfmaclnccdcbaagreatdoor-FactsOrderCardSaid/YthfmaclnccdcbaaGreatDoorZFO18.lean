/- Part of a proof. -/
import Derived.Test.YthfmaclnccdcbaaGreatDoorZFO17
namespace PA
open Go Go.RowKit
theorem uh.mono {P:Program} {o:Oper} {a:Act} {w:World} {X Y:Value→World→Prop} (h:uh P o a w X) (hxy:∀v w',X v w'→Y v w'):uh P o a w Y:=by
 rcases h with ⟨v,w',h1,h2⟩|⟨f,args,w1,h1,h2⟩
 ·exact .inl ⟨v,w',h1,hxy v w' h2⟩
 ·exact .inr ⟨f,args,w1,h1,h2.mono fun e w' ⟨v,e1,h3⟩=>⟨v,e1,hxy v w' h3⟩⟩
theorem uH {P:Program} {W w:World} {A:aB} {o:Oper} {ac:Act} (s y:Operand) (t:TypeId) (ho:o.op=.call { callee:=.builtin .append,args:=#[s,y],argTypes:=#[t,t] })
 (E k KN:Nat) (z:Value) (ht:P.underlying t=some (.slice E)) (hi:(P.info? E).map (fun i=>(i.zero,i.size,i.bytes))=some (some z,k,KN)) (hzs:z.cells.size=k)
 {a:Option Addr} {n c:Nat} {xs:List Value} (hs:ac.eval s=.slice a n c) (h:Sat W w (sep (aT E k a n c xs) A))
 {x:Option Addr} {m cc:Nat} (hy:ac.eval y=.slice x m cc) (news:List Value) (hl:news.length=m*k) (hx0:x=none→m=0) (hx:∀b,x=some b→∀j u,news[j]?=some u→w.cell? (b.add j)=some u)
 (h1:∀u∈news,u.oneCell'=true) (hby:(n+m)*KN≤140737488355328) (h63:n+m≤maxLen):
 uh P o ac w fun v w'=>∃a' c',v=.slice a' (n+m) c'∧Sat W w' (sep (aT E k a' (n+m) c' (xs++news)) A):=by
 obtain⟨i,hi1,hi2,hi3,hi4⟩:=info_parts hi;obtain⟨a',c',w',hr,hS⟩:=pq t o.type E k KN i z ht hi1 hi2 hi3 hi4 hzs h x m cc news hl hx0 hx h1 h63 hby;exact .inl ⟨_,w',qg s y t t ho (by rw[hs,hy];exact hr),a',c',rfl,hS⟩
structure yE where
 J:Mem
 us:List Value
 a:Option Addr
 n:Nat
 c:Nat
structure Lc (J0:Mem) (pa pb:List Fm) (f:Nat→Option Value) (q:yE):Prop where
 le:Mem.le J0 q.J
 r5:∀v,f 5=some v→∃a n c,v=.slice a n c∧n=pa.length∧(rF.slice 4).rel q.J [.slice a n c] pa
 r11:∀v,f 11=some v→∃a n c,v=.slice a n c∧n=pb.length∧(rF.slice 4).rel q.J [.slice a n c] pb
 e0:∀v,f 0=some v→f 6=none→v=.slice q.a q.n q.c∧q.n=0∧q.us=[]
 e6:∀v,f 6=some v→f 12=none→v=.slice q.a q.n q.c∧q.n=pa.length∧(rF.rows 4).rel q.J q.us pa
 e12:∀v,f 12=some v→v=.slice q.a q.n q.c∧q.n=pa.length+pb.length∧(rF.rows 4).rel q.J q.us (pa++pb)
 e13:∀v,f 13=some v→∃u,f 12=some u∧v=.agg #[.int .i64 4,.int .i64 0,.slice none 0 0,u]
def kJ (E:Nat) (f:Nat→Option Value) (q:yE):aB:=match f 0 with|some _=>aT E 4 q.a q.n q.c q.us|none=>emp
def jL (t:TypeId) (f:Nat→Option Value):aB:=match f 14 with|some v=>ex fun g:Nat=>sep (fact (v=.pointer (some ⟨g,0,none⟩))) (blk g (.cells #[.int .i64 0,.int .i64 0,.slice none 0 0,.slice none 0 0] t (0,0)))|none=>emp
def pairT (E:Nat) (t:TypeId) (J0:Mem) (pa pb:List Fm) (Z:aB) (f:Nat→Option Value):aB:=
 ex fun q:yE=>sep (fact (Lc J0 pa pb f q)) (sep (kn q.J) (sep (kJ E f q) (sep (jL t f) Z)))
theorem fF {W w:World} {E:Nat} {t:TypeId} {J0:Mem} {pa pb:List Fm} {Z:aB} {f:Nat→Option Value}:Sat W w (pairT E t J0 pa pb Z f)↔∃q,Lc J0 pa pb f q∧Sat W w (sep (kn q.J) (sep (kJ E f q) (sep (jL t f) Z))):=by
 unfold pairT;rw[Sat.ex];exact⟨fun ⟨q,h⟩=>⟨q,Sat.fact.1 h⟩,fun ⟨q,h⟩=>⟨q,Sat.fact.2 h⟩⟩
theorem EK {E:Nat} {f:Nat→Option Value} {q:yE} (h:f 0=none):kJ E f q=emp:=by unfold kJ;rw[h]
theorem oW {E:Nat} {f:Nat→Option Value} {q:yE} {v:Value} (h:f 0=some v):kJ E f q=aT E 4 q.a q.n q.c q.us:=by unfold kJ;rw[h]
theorem EH {t:TypeId} {f:Nat→Option Value} (h:f 14=none):jL t f=emp:=by unfold jL;rw[h]
theorem EI {t:TypeId} {f:Nat→Option Value} {v:Value} (h:f 14=some v):jL t f=ex fun g:Nat=>sep (fact (v=.pointer (some ⟨g,0,none⟩))) (blk g (.cells #[.int .i64 0,.int .i64 0,.slice none 0 0,.slice none 0 0] t (0,0))):=by unfold jL;rw[h]
theorem pair_0 {W w w':World} {E:Nat} {t:TypeId} {J0:Mem} {pa pb:List Fm} {Z:aB} {f:Nat→Option Value} {g c:Nat} (h0:f 0=none) (h6:f 6=none) (h12:f 12=none)
 (hs:∀q:yE,Lc J0 pa pb f q→Sat W w (sep (kn q.J) (sep (jL t f) Z))→Sat W w' (sep (aT E 4 (some ⟨g,0,none⟩) 0 c []) (sep (kn q.J) (sep (jL t f) Z)))) (h:Sat W w (pairT E t J0 pa pb Z f)):
 Sat W w' (pairT E t J0 pa pb Z (fO f 0 (.slice (some ⟨g,0,none⟩) 0 c))):=by
 obtain⟨q,hp,h1⟩:=fF.1 h;rw[EK h0,jc] at h1;have h2:=hs q hp h1;refine fF.2 ⟨⟨q.J,[],some ⟨g,0,none⟩,0,c⟩,⟨hp.le,fun v hv=>hp.r5 v (by rwa [aN (by decide)] at hv),fun v hv=>hp.r11 v (by rwa [aN (by decide)] at hv),fun v hv _=>?_,fun v hv _=>?_,fun v hv=>?_,fun v hv=>by rw[aN (by decide)] at hv ⊢;exact hp.e13 v hv⟩,?_⟩
 ·rw[dG] at hv;cases hv;exact⟨rfl,rfl,rfl⟩
 ·rw[aN (by decide),h6] at hv;cases hv
 ·rw[aN (by decide),h12] at hv;cases hv
 ·rw[oW dG]
  have e:jL t (fO f 0 (.slice (some ⟨g,0,none⟩) 0 c))=jL t f:=by unfold jL;rw[aN (by decide)]
  rw[e];exact h2.p1
theorem Ih {W w':World} {E:Nat} {t:TypeId} {J0:Mem} {pa pb:List Fm} {Z:aB} {f:Nat→Option Value} {x:Nat} {v:Value} (hx:x≠0∧x≠6∧x≠12∧x≠14∧x≠13) {q:yE} {J':Mem} (hp:Lc J0 pa pb f q) (hle:Mem.le q.J J')
 (h5:x=5→∃a n c,v=.slice a n c∧n=pa.length∧(rF.slice 4).rel J' [.slice a n c] pa) (h11:x=11→∃a n c,v=.slice a n c∧n=pb.length∧(rF.slice 4).rel J' [.slice a n c] pb)
 (h:Sat W w' (sep (kn J') (sep (kJ E f q) (sep (jL t f) Z)))):Sat W w' (pairT E t J0 pa pb Z (fO f x v)):=by
 obtain⟨x0,x6,x12,x14,x13⟩:=hx;refine fF.2 ⟨⟨J',q.us,q.a,q.n,q.c⟩,⟨eG hp.le hle,fun u hu=>?_,fun u hu=>?_,fun u hu h6=>?_,fun u hu h12=>?_,fun u hu=>?_,fun u hu=>by rw[aN (Ne.symm x13)] at hu;rw[aN (Ne.symm x12)];exact hp.e13 u hu⟩,?_⟩
 ·by_cases e:x=5
  ·subst e;rw[dG] at hu;cases hu;exact h5 rfl
  ·rw[aN (Ne.symm e)] at hu
   obtain⟨a,n,c,e1,e2,e3⟩:=hp.r5 u hu;exact⟨a,n,c,e1,e2,(rF.slice 4).mono hle e3⟩
 ·by_cases e:x=11
  ·subst e;rw[dG] at hu;cases hu;exact h11 rfl
  ·rw[aN (Ne.symm e)] at hu
   obtain⟨a,n,c,e1,e2,e3⟩:=hp.r11 u hu;exact⟨a,n,c,e1,e2,(rF.slice 4).mono hle e3⟩
 ·rw[aN (Ne.symm x0)] at hu
  rw[aN (Ne.symm x6)] at h6;exact hp.e0 u hu h6
 ·rw[aN (Ne.symm x6)] at hu
  rw[aN (Ne.symm x12)] at h12;obtain⟨e1,e2,e3⟩:=hp.e6 u hu h12;exact⟨e1,e2,(rF.rows 4).mono hle e3⟩
 ·rw[aN (Ne.symm x12)] at hu
  obtain⟨e1,e2,e3⟩:=hp.e12 u hu;exact⟨e1,e2,(rF.rows 4).mono hle e3⟩
 ·have e1:jL t (fO f x v)=jL t f:=by unfold jL;rw[aN (Ne.symm x14)]
  have e2:kJ E (fO f x v) ⟨J',q.us,q.a,q.n,q.c⟩=kJ E f q:=by unfold kJ;rw[aN (Ne.symm x0)]
  rw[e1,e2];exact h
theorem ZG {W w w':World} {E:Nat} {t:TypeId} {J0:Mem} {pa pb:List Fm} {Z:aB} {f:Nat→Option Value} {g:Nat} (wG:f 14=none)
 (hs:∀q:yE,Sat W w (sep (kn q.J) (sep (kJ E f q) Z))→Sat W w' (sep (blk g (.cells #[.int .i64 0,.int .i64 0,.slice none 0 0,.slice none 0 0] t (0,0))) (sep (kn q.J) (sep (kJ E f q) Z)))) (h:Sat W w (pairT E t J0 pa pb Z f)):
 Sat W w' (pairT E t J0 pa pb Z (fO f 14 (.pointer (some ⟨g,0,none⟩)))):=by
 obtain⟨q,hp,h1⟩:=fF.1 h;rw[EH wG,jc] at h1;have h2:=hs q h1;refine fF.2 ⟨q,⟨hp.le,fun v hv=>hp.r5 v (by rwa [aN (by decide)] at hv),fun v hv=>hp.r11 v (by rwa [aN (by decide)] at hv),fun v hv h6=>hp.e0 v (by rwa [aN (by decide)] at hv) (by rwa [aN (by decide)] at h6),fun v hv h12=>hp.e6 v (by rwa [aN (by decide)] at hv) (by rwa [aN (by decide)] at h12),fun v hv=>hp.e12 v (by rwa [aN (by decide)] at hv),fun v hv=>by rw[aN (by decide)] at hv ⊢;exact hp.e13 v hv⟩,?_⟩;have e2:kJ E (fO f 14 (.pointer (some ⟨g,0,none⟩))) q=kJ E f q:=by unfold kJ;rw[aN (by decide)]
 rw[e2,EI dG];have h3:Sat W w' (sep (ex fun g':Nat=>sep (fact (Value.pointer (some ⟨g,0,none⟩)=.pointer (some ⟨g',0,none⟩))) (blk g' (.cells #[.int .i64 0,.int .i64 0,.slice none 0 0,.slice none 0 0] t (0,0)))) (sep (kn q.J) (sep (kJ E f q) Z))):=by
  rw[fP,Sat.ex];exact⟨g,by rw[aj];exact Sat.fact.2 ⟨rfl,h2⟩⟩
 exact (Sat.q2 h3)
theorem NK {W w':World} {E:Nat} {t:TypeId} {J0:Mem} {pa pb:List Fm} {Z:aB} {f:Nat→Option Value} {x:Nat} {a':Option Addr} {n' c':Nat} {us':List Value} (hx:x=6∨x=12) {q:yE} (hp:Lc J0 pa pb f q) {v0:Value} (h0:f 0=some v0)
 (h6:x=6→f 12=none∧n'=pa.length∧(rF.rows 4).rel q.J us' pa) (h13:f 13=none) (h12:x=12→(f 6).isSome=true∧n'=pa.length+pb.length∧(rF.rows 4).rel q.J us' (pa++pb))
 (h:Sat W w' (sep (aT E 4 a' n' c' us') (sep (kn q.J) (sep (jL t f) Z)))):Sat W w' (pairT E t J0 pa pb Z (fO f x (.slice a' n' c'))):=by
 have x0:(0:Nat)≠x:=by rcases hx with rfl|rfl<;>decide
 have x5:(5:Nat)≠x:=by rcases hx with rfl|rfl<;>decide
 have x11:(11:Nat)≠x:=by rcases hx with rfl|rfl<;>decide
 have x14:(14:Nat)≠x:=by rcases hx with rfl|rfl<;>decide
 have x13:(13:Nat)≠x:=by rcases hx with rfl|rfl<;>decide
 refine fF.2 ⟨⟨q.J,us',a',n',c'⟩,⟨hp.le,fun v hv=>hp.r5 v (by rwa [aN x5] at hv),fun v hv=>hp.r11 v (by rwa [aN x11] at hv),fun v hv e6=>?_,fun v hv e12=>?_,fun v hv=>?_,fun v hv=>by rw[aN x13,h13] at hv;cases hv⟩,?_⟩
 ·rcases hx with rfl|rfl
  ·rw[dG] at e6;cases e6
  ·rw[aN (by decide)] at e6
   have:=(h12 rfl).1;rw[e6] at this;cases this
 ·rcases hx with rfl|rfl
  ·rw[dG] at hv;cases hv
   exact⟨rfl,(h6 rfl).2.1,(h6 rfl).2.2⟩
  ·rw[dG] at e12;cases e12
 ·rcases hx with rfl|rfl
  ·rw[aN (by decide),(h6 rfl).1] at hv;cases hv
  ·rw[dG] at hv;cases hv
   exact⟨rfl,(h12 rfl).2.1,(h12 rfl).2.2⟩
 ·have e1:jL t (fO f x (.slice a' n' c'))=jL t f:=by unfold jL;rw[aN x14]
  have e2:kJ E (fO f x (.slice a' n' c')) ⟨q.J,us',a',n',c'⟩=aT E 4 a' n' c' us':=oW (v:=v0) (by rw[aN x0];exact h0);rw[e1,e2];exact h.p1
theorem ZF {W w:World} {E:Nat} {t:TypeId} {J0:Mem} {pa pb:List Fm} {Z:aB} {f:Nat→Option Value} {u:Value} (h12:f 12=some u) (h:Sat W w (pairT E t J0 pa pb Z f)):
 Sat W w (pairT E t J0 pa pb Z (fO f 13 (.agg #[.int .i64 4,.int .i64 0,.slice none 0 0,u]))):=by
 obtain⟨q,hp,h1⟩:=fF.1 h;refine fF.2 ⟨q,⟨hp.le,fun v hv=>hp.r5 v (by rwa [aN (by decide)] at hv),fun v hv=>hp.r11 v (by rwa [aN (by decide)] at hv),fun v hv h6=>hp.e0 v (by rwa [aN (by decide)] at hv) (by rwa [aN (by decide)] at h6),fun v hv h12=>hp.e6 v (by rwa [aN (by decide)] at hv) (by rwa [aN (by decide)] at h12),fun v hv=>hp.e12 v (by rwa [aN (by decide)] at hv),fun v hv=>?_⟩,?_⟩
 ·rw[dG] at hv;cases hv
  exact⟨u,by rw[aN (by decide)];exact h12,rfl⟩
 ·have e1:jL t (fO f 13 (.agg #[.int .i64 4,.int .i64 0,.slice none 0 0,u]))=jL t f:=by unfold jL;rw[aN (by decide)]
  have e2:kJ E (fO f 13 (.agg #[.int .i64 4,.int .i64 0,.slice none 0 0,u])) q=kJ E f q:=by unfold kJ;rw[aN (by decide)]
  rw[e1,e2];exact h1
theorem RG {W w:World} {A:aB} {g:Nat} {a b c d:Value} {t:TypeId} (h:Sat W w (sep (blk g (.cells #[a,b,c,d] t (0,0))) A)) (x y u v:Value):
 Sat W ((((w.setCell ⟨g,0,none⟩ x).setCell ⟨g,1,none⟩ y).setCell ⟨g,2,none⟩ u).setCell ⟨g,3,none⟩ v) (sep (blk g (.cells #[x,y,u,v] t (0,0))) A):=by
 have h1:=(((h.setCell 0 x).setCell 1 y).setCell 2 u).setCell 3 v;simpa using h1
section
theorem wC {f:Nat→Option Value} {x:Nat} {v:Value} (hx:f x=none) {y:Nat} {u:Value} (h:f y=some u):fO f x v y=some u:=by
 rw[aN (fun e=>by rw[e,hx] at h;cases h)];exact h
structure PrF (J0:Mem) (pa pb:List Fm) (tS:TypeId) (f:Nat→Option Value) (J:Mem):Prop where
 le:Mem.le J0 J
 p1:∀v,f 1=some v→∃a n c,v=.slice a n c∧n=pa.length∧(rF.slice 4).rel J [.slice a n c] pa
 p3:∀v,f 3=some v→∃a n c,v=.slice a n c∧n=pb.length∧(rF.slice 4).rel J [.slice a n c] pb
 p4:∀v,f 4=some v→∃g u1 u3,f 1=some u1∧f 3=some u3∧v=.slice (some ⟨g,0,none⟩) 2 2∧J g=some (.cells #[u1,u3] tS (0,0))
 p5:∀v,f 5=some v→∃a n c,v=.slice a n c∧(rF.slice 4).rel J [.slice a n c] (pa++pb)
 p6:∀v,f 6=some v→∃u,f 5=some u∧v=.agg #[.int .i64 4,.int .i64 0,.slice none 0 0,u]
theorem PrF.set {J0 J J':Mem} {pa pb:List Fm} {tS:TypeId} {f:Nat→Option Value} {x:Nat} {v:Value} (hp:PrF J0 pa pb tS f J) (hx:f x=none) (hle:Mem.le J J')
 (h1:x=1→∃a n c,v=.slice a n c∧n=pa.length∧(rF.slice 4).rel J' [.slice a n c] pa)
 (h3:x=3→∃a n c,v=.slice a n c∧n=pb.length∧(rF.slice 4).rel J' [.slice a n c] pb)
 (h4:x=4→∃g u1 u3,f 1=some u1∧f 3=some u3∧v=.slice (some ⟨g,0,none⟩) 2 2∧J' g=some (.cells #[u1,u3] tS (0,0)))
 (h5:x=5→∃a n c,v=.slice a n c∧(rF.slice 4).rel J' [.slice a n c] (pa++pb))
 (h6:x=6→∃u,f 5=some u∧v=.agg #[.int .i64 4,.int .i64 0,.slice none 0 0,u]):PrF J0 pa pb tS (fO f x v) J':=by
 refine⟨eG hp.le hle,fun u hu=>?_,fun u hu=>?_,fun u hu=>?_,fun u hu=>?_,fun u hu=>?_⟩
 ·by_cases e:x=1
  ·subst e;rw[dG] at hu;cases hu;exact h1 rfl
  ·rw[aN (Ne.symm e)] at hu
   obtain⟨a,n,c,e1,e2,e3⟩:=hp.p1 u hu;exact⟨a,n,c,e1,e2,(rF.slice 4).mono hle e3⟩
 ·by_cases e:x=3
  ·subst e;rw[dG] at hu;cases hu;exact h3 rfl
  ·rw[aN (Ne.symm e)] at hu
   obtain⟨a,n,c,e1,e2,e3⟩:=hp.p3 u hu;exact⟨a,n,c,e1,e2,(rF.slice 4).mono hle e3⟩
 ·by_cases e:x=4
  ·subst e;rw[dG] at hu;cases hu
   obtain⟨g,u1,u3,e1,e2,e3,e4⟩:=h4 rfl;exact⟨g,u1,u3,wC hx e1,wC hx e2,e3,e4⟩
  ·rw[aN (Ne.symm e)] at hu
   obtain⟨g,u1,u3,e1,e2,e3,e4⟩:=hp.p4 u hu;exact⟨g,u1,u3,wC hx e1,wC hx e2,e3,hle _ _ e4⟩
 ·by_cases e:x=5
  ·subst e;rw[dG] at hu;cases hu;exact h5 rfl
  ·rw[aN (Ne.symm e)] at hu
   obtain⟨a,n,c,e1,e2⟩:=hp.p5 u hu;exact⟨a,n,c,e1,(rF.slice 4).mono hle e2⟩
 ·by_cases e:x=6
  ·subst e;rw[dG] at hu;cases hu
   obtain⟨u,e1,e2⟩:=h6 rfl;exact⟨u,wC hx e1,e2⟩
  ·rw[aN (Ne.symm e)] at hu
   obtain⟨u',e1,e2⟩:=hp.p6 u hu;exact⟨u',wC hx e1,e2⟩
def UZ (t:TypeId) (f:Nat→Option Value):aB:=match f 7 with|some v=>ex fun g:Nat=>sep (fact (v=.pointer (some ⟨g,0,none⟩))) (blk g (.cells #[.int .i64 0,.int .i64 0,.slice none 0 0,.slice none 0 0] t (0,0)))|none=>emp
def prT (t tS:TypeId) (J0:Mem) (pa pb:List Fm) (Z:aB) (f:Nat→Option Value):aB:=
 ex fun J:Mem=>sep (fact (PrF J0 pa pb tS f J)) (sep (kn J) (sep (UZ t f) Z))
section
variable {W w w':World} {t tS:TypeId} {J0:Mem} {pa pb:List Fm} {Z:aB} {f:Nat→Option Value}
theorem sN:Sat W w (prT t tS J0 pa pb Z f)↔∃J,PrF J0 pa pb tS f J∧Sat W w (sep (kn J) (sep (UZ t f) Z)):=by
 unfold prT;rw[Sat.ex];exact⟨fun ⟨q,h⟩=>⟨q,Sat.fact.1 h⟩,fun ⟨q,h⟩=>⟨q,Sat.fact.2 h⟩⟩
theorem uU {x:Nat} {v:Value} (hx:x≠7) {J':Mem} (hp:PrF J0 pa pb tS (fO f x v) J') (h:Sat W w' (sep (kn J') (sep (UZ t f) Z))):Sat W w' (prT t tS J0 pa pb Z (fO f x v)):=by
 refine sN.2 ⟨J',hp,?_⟩;have e:UZ t (fO f x v)=UZ t f:=by unfold UZ;rw[aN (Ne.symm hx)]
 rw[e];exact h
theorem prT_7 {g:Nat} (h7:f 7=none) (hs:∀J,Sat W w (sep (kn J) Z)→Sat W w' (sep (blk g (.cells #[.int .i64 0,.int .i64 0,.slice none 0 0,.slice none 0 0] t (0,0))) (sep (kn J) Z))) (h:Sat W w (prT t tS J0 pa pb Z f)):
 Sat W w' (prT t tS J0 pa pb Z (fO f 7 (.pointer (some ⟨g,0,none⟩)))):=by
 obtain⟨J,hp,h1⟩:=sN.1 h;have e0:UZ t f=emp:=by unfold UZ;rw[h7]
 rw[e0,jc] at h1;have h2:=hs J h1;refine sN.2 ⟨J,hp.set h7 (bW _) (fun e=>by cases e) (fun e=>by cases e) (fun e=>by cases e) (fun e=>by cases e) (fun e=>by cases e),?_⟩;have e1:UZ t (fO f 7 (.pointer (some ⟨g,0,none⟩)))=ex fun g':Nat=>sep (fact (Value.pointer (some ⟨g,0,none⟩)=.pointer (some ⟨g',0,none⟩))) (blk g' (.cells #[.int .i64 0,.int .i64 0,.slice none 0 0,.slice none 0 0] t (0,0))):=by unfold UZ;rw[dG]
 rw[e1];have h3:Sat W w' (sep (ex fun g':Nat=>sep (fact (Value.pointer (some ⟨g,0,none⟩)=.pointer (some ⟨g',0,none⟩))) (blk g' (.cells #[.int .i64 0,.int .i64 0,.slice none 0 0,.slice none 0 0] t (0,0)))) (sep (kn J) Z)):=by
  rw[fP,Sat.ex];exact⟨g,by rw[aj];exact Sat.fact.2 ⟨rfl,h2⟩⟩
 exact h3.p1
theorem Ic {J:Mem} {A:aB} (o:Array Value) (E:TypeId) (h:Sat W w (sep (kn J) A)):∃J',Mem.le J J'∧J' w.heap.size=some (.cells o E (0,0))∧Sat W (w.alloc (.cells o E)) (sep (kn J') A):=by
 have h1:=(h.alloc (.cells o E)).settle;exact h1.learn
end
structure Tc where
 J:Mem
 a:Option Addr
 c:Nat
structure YH (J0:Mem) (n:Nat) (cs:List Value) (tE:TypeId) (a0:Option Addr) (c0:Nat) (f:Nat→Option Value) (q:Tc):Prop where
 le:Mem.le J0 q.J
 p0:∀v,f 0=some v→v=.slice a0 n c0
 p1:∀v,f 1=some v→v=.agg cs.toArray
 p2:∀v,f 2=some v→v=.int .i64 (n:Nat)
 p3:∀v,f 3=some v→∃g,v=.slice (some ⟨g,0,none⟩) 1 1∧q.J g=some (.cells #[.int .i64 0,.int .i64 0,.slice none 0 0,.slice none 0 0] tE (0,0))
 p4:∀v,f 4=some v→v=.slice q.a (n+1) q.c
 p5:∀v,f 5=some v→∃g,q.a=some ⟨g,0,none⟩∧v=.pointer (some ⟨g,n*4,none⟩)
theorem YH.set {J0:Mem} {n:Nat} {cs:List Value} {tE:TypeId} {a0:Option Addr} {c0:Nat} {f:Nat→Option Value} {q q':Tc} {x:Nat} {v:Value} (hp:YH J0 n cs tE a0 c0 f q) (hle:Mem.le q.J q'.J)
 (ha:x≠4→q'.a=q.a∧q'.c=q.c) (h45:x=4→f 5=none) (h0:x=0→v=.slice a0 n c0) (h1:x=1→v=.agg cs.toArray) (h2:x=2→v=.int .i64 (n:Nat))
 (h3:x=3→∃g,v=.slice (some ⟨g,0,none⟩) 1 1∧q'.J g=some (.cells #[.int .i64 0,.int .i64 0,.slice none 0 0,.slice none 0 0] tE (0,0)))
 (h4:x=4→v=.slice q'.a (n+1) q'.c) (h5:x=5→∃g,q.a=some ⟨g,0,none⟩∧v=.pointer (some ⟨g,n*4,none⟩)):YH J0 n cs tE a0 c0 (fO f x v) q':=by
 refine⟨eG hp.le hle,fun u hu=>?_,fun u hu=>?_,fun u hu=>?_,fun u hu=>?_,fun u hu=>?_,fun u hu=>?_⟩
 ·by_cases e:x=0
  ·subst e;rw[dG] at hu;cases hu;exact h0 rfl
  ·rw[aN (Ne.symm e)] at hu;exact hp.p0 u hu
 ·by_cases e:x=1
  ·subst e;rw[dG] at hu;cases hu;exact h1 rfl
  ·rw[aN (Ne.symm e)] at hu;exact hp.p1 u hu
 ·by_cases e:x=2
  ·subst e;rw[dG] at hu;cases hu;exact h2 rfl
  ·rw[aN (Ne.symm e)] at hu;exact hp.p2 u hu
 ·by_cases e:x=3
  ·subst e;rw[dG] at hu;cases hu;exact h3 rfl
  ·rw[aN (Ne.symm e)] at hu
   obtain⟨g,e1,e2⟩:=hp.p3 u hu;exact⟨g,e1,hle _ _ e2⟩
 ·by_cases e:x=4
  ·subst e;rw[dG] at hu;cases hu;exact h4 rfl
  ·rw[aN (Ne.symm e)] at hu
   rw[(ha e).1,(ha e).2];exact hp.p4 u hu
 ·by_cases e:x=5
  ·subst e;rw[dG] at hu;cases hu
   rw[(ha (by decide)).1];exact h5 rfl
  ·rw[aN (Ne.symm e)] at hu
   by_cases e4:x=4
   ·rw[h45 e4] at hu;cases hu
   ·rw[(ha e4).1];exact hp.p5 u hu
def owZ:List Value:=[.int .i64 0,.int .i64 0,.slice none 0 0,.slice none 0 0]
def OT (O:Nat) (tO:TypeId) (n:Nat) (a0:Option Addr) (c0:Nat) (f:Nat→Option Value) (q:Tc):aB:=blk O (.cells #[bif (f 7).isSome then .slice q.a (n+1) q.c else .slice a0 n c0] tO (0,0))
def OU (E n:Nat) (a0:Option Addr) (c0:Nat) (vs cs:List Value) (f:Nat→Option Value) (q:Tc):aB:=
 bif (f 4).isSome then aT E 4 q.a (n+1) q.c (vs++bif (f 6).isSome then cs else owZ) else aT E 4 a0 n c0 vs
def owT (J0:Mem) (O:Nat) (tO E:TypeId) (n:Nat) (a0:Option Addr) (c0:Nat) (vs cs:List Value) (Z:aB) (f:Nat→Option Value):aB:=
 ex fun q:Tc=>sep (fact (YH J0 n cs E a0 c0 f q)) (sep (kn q.J) (sep (OT O tO n a0 c0 f q) (sep (OU E n a0 c0 vs cs f q) Z)))
section
variable {W w w':World} {J0:Mem} {O:Nat} {tO E:TypeId} {n:Nat} {a0:Option Addr} {c0:Nat} {vs cs:List Value} {Z:aB} {f:Nat→Option Value}
theorem sJ:Sat W w (owT J0 O tO E n a0 c0 vs cs Z f)↔∃q,YH J0 n cs E a0 c0 f q∧Sat W w (sep (kn q.J) (sep (OT O tO n a0 c0 f q) (sep (OU E n a0 c0 vs cs f q) Z))):=by
 unfold owT;rw[Sat.ex];exact⟨fun ⟨q,h⟩=>⟨q,Sat.fact.1 h⟩,fun ⟨q,h⟩=>⟨q,Sat.fact.2 h⟩⟩
theorem uT {x:Nat} {v:Value} (hx:x≠4∧x≠6∧x≠7) {q q':Tc} (ha:q'.a=q.a∧q'.c=q.c) (hp:YH J0 n cs E a0 c0 (fO f x v) q') (h:Sat W w' (sep (kn q'.J) (sep (OT O tO n a0 c0 f q) (sep (OU E n a0 c0 vs cs f q) Z)))):
 Sat W w' (owT J0 O tO E n a0 c0 vs cs Z (fO f x v)):=by
 refine sJ.2 ⟨q',hp,?_⟩;have e1:OT O tO n a0 c0 (fO f x v) q'=OT O tO n a0 c0 f q:=by unfold OT;rw[aN (Ne.symm hx.2.2),ha.1,ha.2]
 have e2:OU E n a0 c0 vs cs (fO f x v) q'=OU E n a0 c0 vs cs f q:=by unfold OU;rw[aN (Ne.symm hx.1),aN (Ne.symm hx.2.1),ha.1,ha.2]
 rw[e1,e2];exact h
theorem JD {q:Tc} (h:f 7=none):OT O tO n a0 c0 f q=blk O (.cells #[.slice a0 n c0] tO (0,0)):=by unfold OT;rw[h];rfl
theorem Qr {q:Tc} (h:f 4=none):OU E n a0 c0 vs cs f q=aT E 4 a0 n c0 vs:=by unfold OU;rw[h];rfl
theorem Xn {q:Tc} {v:Value} (h:f 4=some v) (h6:f 6=none):OU E n a0 c0 vs cs f q=aT E 4 q.a (n+1) q.c (vs++owZ):=by unfold OU;rw[h,h6];rfl
theorem aaK {q:Tc} {v u:Value} (h:f 4=some v) (h6:f 6=some u):OU E n a0 c0 vs cs f q=aT E 4 q.a (n+1) q.c (vs++cs):=by unfold OU;rw[h,h6];rfl
theorem owT_4 {q:Tc} {a':Option Addr} {c':Nat} (hp:YH J0 n cs E a0 c0 f q) (h5:f 5=none) (h6:f 6=none) (h7:f 7=none)
 (h:Sat W w' (sep (aT E 4 a' (n+1) c' (vs++owZ)) (sep (kn q.J) (sep (blk O (.cells #[.slice a0 n c0] tO (0,0))) Z)))):Sat W w' (owT J0 O tO E n a0 c0 vs cs Z (fO f 4 (.slice a' (n+1) c'))):=by
 refine sJ.2 ⟨⟨q.J,a',c'⟩,hp.set (bW _) (fun e=>absurd rfl e) (fun _=>h5) (fun e=>by cases e) (fun e=>by cases e) (fun e=>by cases e) (fun e=>by cases e) (fun _=>rfl) (fun e=>by cases e),?_⟩;rw[JD (by rw[aN (by decide)];exact h7),Xn dG (by rw[aN (by decide)];exact h6)];simpa only[aA,au,aj] using h
theorem owT_7 {q:Tc} {v:Value} (hp:YH J0 n cs E a0 c0 f q)
 (h:Sat W w' (sep (blk O (.cells #[.slice q.a (n+1) q.c] tO (0,0))) (sep (kn q.J) (sep (OU E n a0 c0 vs cs f q) Z)))):Sat W w' (owT J0 O tO E n a0 c0 vs cs Z (fO f 7 v)):=by
 refine sJ.2 ⟨q,hp.set (bW _) (fun _=>⟨rfl,rfl⟩) (fun e=>by cases e) (fun e=>by cases e) (fun e=>by cases e) (fun e=>by cases e) (fun e=>by cases e) (fun e=>by cases e) (fun e=>by cases e),?_⟩;have e1:OT O tO n a0 c0 (fO f 7 v) q=blk O (.cells #[.slice q.a (n+1) q.c] tO (0,0)):=by unfold OT;rw[dG];rfl
 have e2:OU E n a0 c0 vs cs (fO f 7 v) q=OU E n a0 c0 vs cs f q:=by unfold OU;rw[aN (by decide),aN (by decide)]
 rw[e1,e2];exact h.p1
theorem owT_6 {q:Tc} {v u:Value} (hp:YH J0 n cs E a0 c0 f q) (h4:f 4=some u)
 (h:Sat W w' (sep (aT E 4 q.a (n+1) q.c (vs++cs)) (sep (kn q.J) (sep (OT O tO n a0 c0 f q) Z)))):Sat W w' (owT J0 O tO E n a0 c0 vs cs Z (fO f 6 v)):=by
 refine sJ.2 ⟨q,hp.set (bW _) (fun _=>⟨rfl,rfl⟩) (fun e=>by cases e) (fun e=>by cases e) (fun e=>by cases e) (fun e=>by cases e) (fun e=>by cases e) (fun e=>by cases e) (fun e=>by cases e),?_⟩;have e1:OT O tO n a0 c0 (fO f 6 v) q=OT O tO n a0 c0 f q:=by unfold OT;rw[aN (by decide)]
 rw[e1,aaK (u:=v) (by rw[aN (by decide)];exact h4) dG];simpa only[aA,au,aj] using h
theorem Ig {A:aB} {a:Option Addr} {m c:Nat} {xs:List Value} (z0 z1 z2 z3 y0 y1 y2 y3:Value) (hl:xs.length=m*4) (h:Sat W w (sep (aT E 4 a (m+1) c (xs++[z0,z1,z2,z3])) A)):
 ∃g,a=some ⟨g,0,none⟩∧(w.cell? ⟨g,m*4,none⟩=some z0∧w.cell? ⟨g,m*4+1,none⟩=some z1∧w.cell? ⟨g,m*4+2,none⟩=some z2∧w.cell? ⟨g,m*4+3,none⟩=some z3)∧(∀i,w.frozen? ⟨g,i,none⟩=false) ∧
  Sat W ((((w.setCell ⟨g,m*4,none⟩ y0).setCell ⟨g,m*4+1,none⟩ y1).setCell ⟨g,m*4+2,none⟩ y2).setCell ⟨g,m*4+3,none⟩ y3) (sep (aT E 4 a (m+1) c (xs++[y0,y1,y2,y3])) A):=by
 rcases h.iD with ⟨_,e,_⟩|⟨g,cur,rfl,h1,h2,h3,h4,h5,hS⟩
 ·cases e
 ·have hsz:m*4+3<cur.size:=by omega
  have hcur:cur.toList=(xs++[z0,z1,z2,z3])++cur.toList.drop ((m+1)*4):=by rw[←h5,List.take_append_drop]
  have hat:∀i z,(xs++[z0,z1,z2,z3])[i]?=some z→cur[i]?=some z:=fun i z hz=>by
   rw[←Array.getElem?_toList,hcur,List.getElem?_append_left (qM hz).1];exact hz
  have hi:∀j z,[z0,z1,z2,z3][j]?=some z→(xs++[z0,z1,z2,z3])[m*4+j]?=some z:=fun j z hz=>by
   rw[List.getElem?_append_right (by omega),show m*4+j-xs.length=j by omega];exact hz
  refine⟨g,rfl,⟨?_,?_,?_,?_⟩,fun i=>hS.aI i,?_⟩
  ·rw[hS.cell (m*4)];exact hat _ _ (hi 0 z0 rfl)
  ·rw[hS.cell (m*4+1)];exact hat _ _ (hi 1 z1 rfl)
  ·rw[hS.cell (m*4+2)];exact hat _ _ (hi 2 z2 rfl)
  ·rw[hS.cell (m*4+3)];exact hat _ _ (hi 3 z3 rfl)
  ·refine ((((hS.setCell (m*4) y0).setCell (m*4+1) y1).setCell (m*4+2) y2).setCell (m*4+3) y3).lJ (m+1) c 4 _ (by simp[hl];omega) h2 h3 (by simp[h4]) ?_
   simp only[Array.toList_setIfInBounds];rw[hcur];have e0:m*4=xs.length:=hl.symm;rw[e0];simp only[kZ];have key:∀(j:Nat) (l:List Value) (v:Value),(xs++l).set (xs.length+j) v=xs++l.set j v:=fun j l v=>by
    rw[List.set_append_right _ _ (by omega),Nat.add_sub_cancel_left]
   have agj:∀(l:List Value) (v:Value),(xs++l).set xs.length v=xs++l.set 0 v:=fun l v=>key 0 l v
   rw[agj,key,key,key];have e4:(m+1)*4=xs.length+4:=by omega
   rw[e4,List.take_length_add_append];rfl
end
end
theorem Fm.QJ:∀(f g:Fm),g∈f.dO→∀x∈g.nodes,x∈f.nodes:=by
 intro f;refine Fm.ind (P:=fun f=>∀g:Fm,g∈f.dO→∀x∈g.nodes,x∈f.nodes) (fun o n i k ih=>?_) f;intro g hg x hx;rw[Fm.dO] at hg;split at hg
 ·have key:∀(l:List Fm),(∀f∈l,∀g,g∈f.dO→∀x∈g.nodes,x∈f.nodes)→g∈Fm.aZ l→x∈Fm.bV l:=by
   intro l
   induction l with
   | nil=>intro _ h;simp[Fm.aZ] at h
   | cons y l ihl=>
    intro h1 h2;rw[Fm.aZ,List.mem_append] at h2;rw[Fm.bV,List.mem_append];rcases h2 with h2|h2
    ·exact .inl (h1 y (List.mem_cons_self ..) g h2 x hx)
    ·exact .inr (ihl (fun f hf=>h1 f (tY _ hf)) h2)
  rw[Fm.nodes];exact tY _ (key k ih hg)
 ·rw[vW hg] at hx;exact hx
theorem Fm.NP (f g:Fm) (hg:g∈f.parts):∀x∈g.nodes,x∈f.nodes:=by
 obtain⟨o,n,i,k⟩:=f;intro x hx;have hg':g∈if o=4 then k else [Fm.mk o n i k]:=hg
 split at hg'
 ·rw[Fm.nodes];exact tY _ (Fm.Ey hg' hx)
 ·rw[vW hg'] at hx;exact hx
theorem Fm.xX {k:List Fm} {x:Fm} (h:x∈Fm.bV k):∃g∈k,x∈g.nodes:=by
 induction k with
 | nil=>simp[Fm.bV] at h
 | cons g k ih=>
  rw[Fm.bV,List.mem_append] at h;rcases h with h|h
  ·exact⟨g,List.mem_cons_self ..,h⟩
  ·obtain⟨y,hy,hx⟩:=ih h
   exact⟨y,tY _ hy,hx⟩
theorem AX:∀{x t y:List Fm},eX x t=some y→∀f∈y,∃a∈x,∃b∈t,f=fC a b
 | [],t,y,h,f,hf=>by cases h;cases hf
 | a::x,t,y,h,f,hf=>by
  rw[eX] at h;split at h
  ·cases hc:eX x t with
   | none=>rw[hc] at h;cases h
   | some z=>
    rw[hc] at h;simp only[Option.map_some,Option.some.injEq] at h;subst h;rw[List.mem_append] at hf;rcases hf with hf|hf
    ·obtain⟨b,hb,rfl⟩:=List.mem_map.1 hf
     exact⟨a,List.mem_cons_self ..,b,hb,rfl⟩
    ·obtain⟨a',ha',b,hb,e⟩:=AX hc f hf
     exact⟨a',tY _ ha',b,hb,e⟩
  ·cases h
theorem GY {Q:Fm→Prop} (hQ:∀a b,Q a→Q b→Q (fC a b)) {of:Nat→Option (List Fm)} {own:List Fm} (hown:∀f∈own,Q f) (hof:∀r y,of r=some y→∀f∈y,Q f):∀{rs:List Int} {out y:List Fm},(∀f∈out,Q f)→eH of own rs out=some y→∀f∈y,Q f
 | [],out,y,ho,h,f,hf=>by cases h;exact ho f hf
 | r::rs,out,y,ho,h,f,hf=>by
  rw[eH] at h;cases hr:of r.toNat with
  | none=>rw[hr] at h;cases h
  | some x=>
   rw[hr] at h;simp only at h;split at h
   ·cases h
   ·cases hc:eX x own with
    | none=>rw[hc] at h;cases h
    | some z=>
     rw[hc] at h;simp only at h;refine GY hQ hown hof (fun f hf=>?_) h f hf;rw[List.mem_append] at hf;rcases hf with hf|hf
     ·exact ho f hf
     ·obtain⟨a,ha,b,hb,rfl⟩:=AX hc f hf
      exact hQ a b (hof _ _ hr a ha) (hown b hb)
theorem altC_Q {Q:Fm→Prop} (hQ:∀a b,Q a→Q b→Q (fC a b)) {of:Nat→Option (List Fm)} {c:Cl} (hown:∀f∈c.body.dO,Q f) (hof:∀r y,of r=some y→∀f∈y,Q f) {y:List Fm} (h:tX of c=some y):∀f∈y,Q f:=by
 unfold tX at h;split at h
 ·split at h
  ·cases h;exact hown
  ·cases h
 ·exact GY hQ hown hof (fun f hf=>by cases hf) h
theorem altN_Q {Q:Fm→Prop} (hQ:∀a b,Q a→Q b→Q (fC a b)) {l:List Cl} (hown:∀c∈l,∀f∈c.body.dO,Q f) (k:Nat):∀y,fU l k=some y→∀f∈y,Q f:=by
 induction k using Nat.strongRecOn with
 | ind k ih=>
  intro y h;cases hc:l[k]? with
  | none=>rw[fU,hc] at h;cases h
  | some c=>
   rw[CG hc] at h;refine altC_Q hQ (hown c (mZ hc)) (fun r y hr=>?_) h;split at hr
   ·rename_i hlt;exact ih r hlt y hr
   ·cases hr
end PA
namespace Go.Proofs.YthfmaclnccdcbaaGreatDoor
open Go.RowKit PA
def KL (f:Fm):Prop:=∀g∈f.nodes,∀x∈g.ins,KJ x
theorem KL.dO {f g:Fm} (h:KL f) (hg:g∈f.dO):KL g:=fun x hx=>h x (Fm.QJ f g hg x hx)
theorem KL.parts {f g:Fm} (h:KL f) (hg:g∈f.parts):KL g:=fun x hx=>h x (Fm.NP f g hg x hx)
theorem KL.pair {a b:Fm} (ha:KL a) (hb:KL b):KL (fC a b):=by
 intro g hg x hx;rw[fC,Fm.nodes] at hg;rcases List.mem_cons.1 hg with rfl|hg
 ·cases hx
 ·obtain⟨y,hy,TT⟩:=Fm.xX hg
  rcases List.mem_append.1 hy with hy|hy
  ·exact ha.parts hy g TT x hx
  ·exact hb.parts hy g TT x hx
end Go.Proofs.YthfmaclnccdcbaaGreatDoor
namespace PA
open Go Go.RowKit
def rG:Fm→List UInt8
 | .mk o n i k=>PA.encI o++PA.encI n++PA.encI i.length++dU i++PA.encI k.length
def oN (l:List Fm):List UInt8:=(l.map rG).flatten
theorem uJ (a b:List Fm):oN (a++b)=oN a++oN b:=by unfold oN;rw[qy,List.flatten_append]
theorem TM (a:List Fm) (f:Fm):oN (a++[f])=oN a++rG f:=by rw[uJ];simp[oN]
theorem PG:∀f:Fm,oN f.nodes=dw f:=by
 intro f;refine Fm.ind (P:=fun f=>oN f.nodes=dw f) (fun o n i k ih=>?_) f;have key:∀l:List Fm,(∀f∈l,oN f.nodes=dw f)→oN (Fm.bV l)=eY l:=by
  intro l
  induction l with
  | nil=>intro _;rfl
  | cons g l ihl=>
   intro h;rw[Fm.bV,uJ,eY,h g (List.mem_cons_self ..),ihl fun x hx=>h x (tY _ hx)]
 rw[Fm.nodes,dw,←key k ih];show oN ([Fm.mk o n i k]++Fm.bV k)=_;rw[uJ];simp[oN,rG]
theorem Uj:∀(f:Fm),f.n64→∀g∈f.nodes,g.n64:=by
 intro f;refine Fm.ind (P:=fun f=>f.n64→∀g∈f.nodes,g.n64) (fun o n i k ih=>?_) f;intro h g hg;rw[Fm.nodes] at hg;rcases List.mem_cons.1 hg with rfl|hg
 ·exact h
 ·obtain⟨y,hy,TT⟩:=Fm.xX hg
  rw[Fm.n64] at h;exact ih y hy (Fm.Nv h.2.2.2 hy) g TT
end PA
namespace Go.Proofs.YthfmaclnccdcbaaGreatDoor
open Go.RowKit PA
theorem qC (b:Bool) (w:World):Calls Tryz.prog 132 #[.bool b] w fun e w'=>e=.returned (.int .i64 (je b))∧w=w':=by
 cases b with
 | false=>
  go_enter Tryz.func132,Tryz.ntmps132;go_wp2;go_ret;exact⟨rfl,rfl⟩
 | true=>
  go_enter Tryz.func132,Tryz.ntmps132;go_wp2;go_ret;exact⟨rfl,rfl⟩
set_option maxRecDepth 100000 in
set_option maxHeartbeats 4000000 in
theorem Bj {W w:World} {A:aB} (p:Nat) (bs:List UInt8) (a:Option Addr) (n c:Nat) (l:List Int) (hn:n=l.length) (hn2:l.length≤1048576) (hi:∀r∈l,-9223372036854775808≤r∧r≤9223372036854775807)
 (hc:∀w' B,Sat W w' (sep B A)→∀(k:Nat) r,l[k]?=some r→∃b o,a=some ⟨b,o,none⟩∧w'.cell? ⟨b,o+k,none⟩=some (.int .i64 r)) (h:Sat W w (sep (dP p bs) A)) (hb:bs.length≤1000000000):
 Calls Tryz.prog 131 #[.pointer (some ⟨p,0,none⟩),.slice a n c] w fun e w'=>e=.returned (.tuple #[])∧Sat W w' (sep (dP p (bs++gu l)) A):=by
 have hw1:IntKind.u64.wrap (n:Int)=(n:Nat):=wraps_u64 _ (by omega) (by omega);have hu:=yA p bs n (by omega) h (by omega);have hall:=qV l;have hle:=vK hn2 hi;have h0:qU l 0=Lib.uvarint n:=by unfold qU;rw[hn];simp
 rw[←h0] at hu;obtain⟨V,hV⟩:∃V:Nat→List UInt8,V=fun k=>bs++qU l k:=⟨_,rfl⟩
 have hV0:bs++qU l 0=V 0:=by rw[hV]
 have hVn:bs++gu l=V n:=by rw[hV];simp only;rw[hn,hall]
 have BM:∀k r,l[k]?=some r→V (k+1)=V k++PA.encI r:=fun k r hr=>by rw[hV];simp only;rw[vM hr,kZ]
 have BL:∀k,k≤n→(V k).length≤1073741824:=fun k hk=>by rw[hV];simp only[dM];have:=hle k;omega
 rw[hV0] at hu;rw[hVn];have HU:=ah hu;have HX:=ah (aH hn (aH hi (aH hc (aH BM BL))));have hn63:(n:Int)≤1048576:=by omega
 clear hu hn hn2 hi hc hb hall hle h0 h hV hV0 hVn BM BL;go_enter Tryz.func131,Tryz.ntmps131;go_wp2_with fail;refine HU.out.mono ?_;rintro e w2 ⟨rfl,h1⟩;have H1:=ah h1;clear HU h1;go_wp2_with fail;go_loopw [13] (fun kv wr=>∃k:Nat,k≤n∧kv=.int .i64 k∧Sat W wr (sep (dP p (V k)) A)) (fun kv _=>n-(intOf kv).toNat)
 case atStart=>exact⟨0,Nat.zero_le _,rfl,H1.out⟩
 case round=>
  clear H1;obtain⟨k,hk,rfl,hS⟩:=hrel;by_cases hkm:k<n
  ·obtain⟨x,hx⟩:∃x,l[k]?=some x:=⟨_,iM (by have:=HX.out.1;omega)⟩
   obtain⟨g,o,rfl,hcc⟩:=HX.out.2.2.1 wr _ hS k x hx;have oO:=HX.out.2.1 x (mZ hx);have hwi:=iV p (V k) x oO.1 oO.2 hS (HX.out.2.2.2.2 k hk);rw[←HX.out.2.2.2.1 k x hx] at hwi;have KY:=ah hwi;have hkI:(k:Int)<n:=by omega
   have HK:=ah hkm;clear hx oO hwi hS hkm hk;go_wp2_with fail;refine KY.out.mono ?_;rintro e w3 ⟨rfl,h3⟩;have H3:=ah h3;clear h3 KY hcc;go_wp2_with fail;go_roundw;case rel=>exact⟨k+1,by have:=HK.out;omega,by go_num,H3.out⟩
   case measure=>simp[intOf];have:=HK.out;omega
  ·obtain rfl:k=n:=by omega
   have H3:=ah hS;clear hS hkm hk;go_wp2;exact bodyPost_end (results_none rfl _ _ _) rfl ⟨rfl,H3.out⟩
end Go.Proofs.YthfmaclnccdcbaaGreatDoor
namespace PA
open Go Go.RowKit
theorem ZN {l:List Iv} (h:rU l=true):l.length≤32:=by
 unfold rU KO at h;split at h
 ·simp at h
 ·split at h
  ·simp at h
  ·omega
theorem Ze {f:Fm} (h:kQ f=0):∀g∈f.nodes,g.ins.length≤32:=by
 unfold kQ Fm.valid at h;split at h
 ·cases h
 ·split at h
  ·rename_i hw
   rw[Fm.vg,List.all_eq_true] at hw;intro g hg;have h1:=hw g hg;obtain⟨o,n,i,k⟩:=g;rw[Fm.formed] at h1;by_cases o2:o=2
   ·subst o2
    simp at h1;have:=ZN h1.2;exact this
   ·split at h1
    ·cases h1
    ·rename_i h2
     have:i=[]:=Classical.byContradiction fun hn=>h2 (.inl ⟨o2,hn⟩)
     subst this;exact Nat.zero_le _
  ·cases h
theorem xG {l:List Iv} (h:∀x∈l,∀r∈PA.dL x,-9223372036854775808≤r∧r≤9223372036854775807):(dU l).length≤90*l.length:=by
 induction l with
 | nil=>simp[dU]
 | cons x l ih=>
  have h1:=ih fun y hy=>h y (tY _ hy)
  have h2:=vK (l:=PA.dL x) (by simp[PA.dL]) (h x (List.mem_cons_self ..)) 8;have h3:qU (PA.dL x) 8=gu (PA.dL x):=qV (PA.dL x);unfold dU at h1 ⊢;rw[mM,List.flatten_cons,dM,oP];rw[h3] at h2;omega
def Vy (g:Fm):Prop:=g.n64∧g.ins.length≤32∧g.kids.length≤1000000
theorem Uk {g:Fm} (h:Vy g):(rG g).length≤3000:=by
 obtain⟨o,n,i,k⟩:=g;obtain⟨h1,h2,h3⟩:=h;rw[Fm.n64] at h1;have e1:=eP h1.1.1 h1.1.2;have e2:=eP h1.2.1.1 h1.2.1.2;have hi:i.length≤32:=h2;have hk:k.length≤1000000:=h3;have e3:=eP (r:=(i.length:Int)) (by omega) (by omega);have e4:=eP (r:=(k.length:Int)) (by omega) (by omega);have e5:=xG h1.2.2.1;unfold rG;simp only[dM];omega
def Gx (I:Mem) (C P:Nat) (tP:TypeId) (wr:Nat→List UInt8→aB) (xs:List FV):aB:=sep (fact ((oN (xs.map (·.2))).length≤3000*xs.length)) (sep (kn I) (sep (blk C (.cells #[.pointer (some ⟨P,0,none⟩)] tP (0,0))) (wr P (oN (xs.map (·.2))))))
end PA
namespace Go.Proofs.YthfmaclnccdcbaaGreatDoor
open Go.RowKit PA
attribute [local go_sem] Oper.semAt_some
attribute [local go_sem ↓] uD
set_option maxRecDepth 100000 in
set_option maxHeartbeats 16000000 in
theorem qL {W w:World} {A:aB} {I:Mem} (f:Fm) (p q:Int) (x1:Option Addr) (n1 c1:Nat) (x2:Option Addr) (n2 c2:Nat) (hr:rF.rel I [.int .i64 p,.int .i64 q,.slice x1 n1 c1,.slice x2 n2 c2] f) (hK:KQ f) (h64:f.n64) (h:Sat W w (sep (kn I) A)):
 Calls Tryz.prog 75 #[.agg #[.int .i64 p,.int .i64 q,.slice x1 n1 c1,.slice x2 n2 c2]] w fun e w'=>∃(a:Option Addr) (n c:Nat) (J:Mem),e=.returned (.tuple #[.slice a n c,.int .i64 (kQ f)])∧Mem.le I J∧bZ.rel J [.slice a n c] (gK f)∧Sat W w' (sep (kn J) A):=by
 have h1:=h.alloc (.cells #[.int .i64 p,.int .i64 q,.slice x1 n1 c1,.slice x2 n2 c2] 34);obtain⟨B,hB⟩:=aC (w.heap.size);obtain⟨w1,hw1⟩:=aC (w.alloc (.cells #[.int .i64 p,.int .i64 q,.slice x1 n1 c1,.slice x2 n2 c2] 34));rw[←hB,←hw1] at h1;obtain⟨k0,k1,k2,k3⟩:=lH h1;have HB:=ah (aH hB hw1);have H1:=ah h1;obtain⟨rv,dQ⟩:=aC (kQ f);obtain⟨E,hE⟩:=aC (gK f);have wF:Hid (∀w' A',Sat W w' (sep (kn I) A')→Calls Tryz.prog 118 #[.agg #[.int .i64 p,.int .i64 q,.slice x1 n1 c1,.slice x2 n2 c2]] w' fun e w''=>e=.returned (.int .i64 rv)∧Sat W w'' (sep (kn I) A')):=ah fun w' A' h'=>by rw[dQ];exact mF f p q x1 n1 c1 x2 n2 c2 hr hK.1 hK.2 h'
 have kY:Hid ((rv≠0→E=[])∧(rv=0→E=dw f)):=ah ⟨fun h0=>by rw[hE];unfold gK;rw[if_neg (by rw[←dQ];exact h0)],fun h0=>by rw[hE];unfold gK;rw[if_pos (by rw[←dQ];exact h0)]⟩;have HPN:Hid (rv=0→f.size≤96∧∀g∈f.nodes,Vy g):=ah fun h0=>by
  rw[dQ] at h0;refine⟨lY h0,fun g hg=>⟨Uj f h64 g hg,Ze h0 g hg,?_⟩⟩;have h2:∀(l:List Fm),l.length≤Fm.sizes l:=by
   intro l
   induction l with
   | nil=>simp
   | cons g l ih=>
    rw[Fm.sizes,oP];have:1≤g.size:=by cases g;rw[Fm.size];omega
    omega
  have h3:∀(f:Fm),∀g∈f.nodes,g.kids.length≤f.size:=by
   intro f;refine Fm.ind (P:=fun f=>∀g∈f.nodes,g.kids.length≤f.size) (fun o n i k ih=>?_) f;intro g hg;rw[Fm.nodes] at hg;rw[Fm.size];rcases List.mem_cons.1 hg with rfl|hg
   ·have:=h2 k;show k.length≤_;omega
   ·obtain⟨y,hy,TT⟩:=Fm.xX hg
    have h4:=ih y hy g TT;have h5:=Fm.lQ hy;omega
  have:=h3 f g hg;have:=lY h0;omega
 have HR:=ah hr;have XR:=ah (fun w' (A':aB) (h':Sat W w' A')=>uO (.int .i64 p) (.int .i64 q) (.slice x1 n1 c1) (.slice x2 n2 c2) h');rw[←dQ,←hE];obtain⟨Po,dS⟩:∃P:Ending→World→Prop,P=fun e w'=>∃(a:Option Addr) (n c:Nat) (J:Mem),e=.returned (.tuple #[.slice a n c,.int .i64 rv])∧Mem.le I J∧bZ.rel J [.slice a n c] E∧Sat W w' (sep (kn J) A):=⟨_,rfl⟩
 rw[←dS];have bK:=ah dS;have eg:=enters_of (P:=Tryz.prog) Tryz.func172 (by kernel_rfl) rfl;clear hr hK h64 h h1 hB hw1 dQ hE dS;by_cases hb0:rv=0
 ·subst hb0
  obtain⟨adS,hPn⟩:=HPN.out rfl;have hEf:=kY.out.2 rfl;have HPP:=ah (aH adS (aH hPn hEf));clear HPN kY adS hPn hEf;refine (callsIn_wide (n:=5)).1 ?_;refine callsIn_of_wp_marks Tryz.func75 rfl trivial ?_ rfl;simp only[Tryz.ntmps75,List.size_toArray,oP,List.length_nil,Nat.reduceAdd,Nat.reduceSub,Array.replicate_succ,Array.replicate_zero,List.push_toArray,List.append_toArray,tK,pV];refine wpIn_wide.2 ?_;go_upto_region 1 with fail;rw[←HB.out.1,←HB.out.2];go_wp2_with fail;refine (wF.out _ _ H1.out.p1).mono ?_;rintro e w2 ⟨rfl,h2⟩;have h3:=(h2.p1.alloc (.cells #[.slice none 0 0] 104)).alloc (.cells #[.pointer (some ⟨w2.heap.size,0,none⟩)] 140);rw[World.size_alloc] at h3;obtain⟨P,hP⟩:=aC (w2.heap.size);obtain⟨w3,hw3⟩:=aC ((w2.alloc (.cells #[.slice none 0 0] 104)).alloc (.cells #[.pointer (some ⟨w2.heap.size,0,none⟩)] 140));rw[←hw3,←hP] at h3;have HP:=ah (aH hP hw3);have h4:Sat W w3 (sep (blk B (.cells #[.int .i64 p,.int .i64 q,.slice x1 n1 c1,.slice x2 n2 c2] 34 (0,0))) (sep (Gx I (P+1) P 140 dP []) (sep (kn I) A))):=by
   have h5:Sat W w3 (sep (kn I) (sep (blk P (.cells #[.slice none 0 0] 104 (0,0))) (sep (blk (P+1) (.cells #[.pointer (some ⟨P,0,none⟩)] 140 (0,0))) (sep (blk B (.cells #[.int .i64 p,.int .i64 q,.slice x1 n1 c1,.slice x2 n2 c2] 34 (0,0))) A)))):=dI h3;have h6:=Sat.fV (Sat.dup h5) 5 1;have h7:Sat W w3 (sep (blk P (.cells #[.slice none 0 0] 104 (0,0))) (sep (aT 5 1 none 0 0 (([]:List UInt8).map bv)) (sep (kn I) (sep (kn I) (sep (blk (P+1) (.cells #[.pointer (some ⟨P,0,none⟩)] 140 (0,0))) (sep (blk B (.cells #[.int .i64 p,.int .i64 q,.slice x1 n1 c1,.slice x2 n2 c2] 34 (0,0))) A)))))):=by
    show Sat W w3 (sep _ (sep (aT 5 1 none 0 0 []) _));unfold kn at h6 ⊢;simpa only[aA,au,aj] using h6
   have h8:Sat W w3 (sep (fact ((oN (([]:List FV).map (·.2))).length≤3000*([]:List FV).length)) (sep (dP P (oN (([]:List FV).map (·.2)))) (sep (kn I) (sep (kn I) (sep (blk (P+1) (.cells #[.pointer (some ⟨P,0,none⟩)] 140 (0,0))) (sep (blk B (.cells #[.int .i64 p,.int .i64 q,.slice x1 n1 c1,.slice x2 n2 c2] 34 (0,0))) A)))))):=Sat.fact.2 ⟨by simp[oN],vT h7⟩;unfold Gx;simpa only[aA,au,aj] using h8
  obtain⟨j0,j1,j2,j3⟩:=lH h4;have H4:=ah h4;clear h2 h3 h4 hP hw3 wF k0 k1 k2 k3;go_upto_region 5 with fail;rw[←HP.out.2,←HP.out.1];go_wp2_with fail;refine (XR.out _ _ H4.out).mono ?_;rintro e w4 ⟨fb,rfl,h5⟩;have h6:Sat W w4 (sep (Gx I (P+1) P 140 dP []) (sep (blk fb (.cells #[.int .i64 p,.int .i64 q,.slice x1 n1 c1,.slice x2 n2 c2] 34 (0,0))) (sep (kn I) (sep (blk B (.cells #[.int .i64 p,.int .i64 q,.slice x1 n1 c1,.slice x2 n2 c2] 34 (0,0))) A)))):=dI h5;clear h5 XR j0 j1 j2 j3 H4 HP;go_wp2_with fail;refine (wpIn_wide (n:=5)).1 ?_;refine nM (F:=Fence.wide) (W:=W) rfl (by omega) (gf:=172) (lb:=#[.pointer (some ⟨fb,0,none⟩)]) rfl trivial eg (encs:=su) (fun _=>rfl) (wV (A:=sep (blk B (.cells #[.int .i64 p,.int .i64 q,.slice x1 n1 c1,.slice x2 n2 c2] 34 (0,0))) A) Vy 96 (5-1) f p q x1 n1 c1 x2 n2 c2 HR.out HPP.out.2.1 HPP.out.1 fb)
   (Gx I (P+1) P 140 dP) (fun _ _=>fact False) h6
   (fun y g t=>(t.setIfInBounds 18 (.agg y.1.toArray)).setIfInBounds 6 (.pointer (some ⟨g,0,none⟩)))
   (fun pre y g=>sep (fact (rF.rel I y.1 y.2∧Vy y.2)) (sep (blk g (.cells y.1.toArray 34 (0,0))) (Gx I (P+1) P 140 dP pre))) ?assign ?body ?done ?stop
  case assign=>
   as_aux_lemma=>
   intro lp pre y w' X K hlen hS hK;have h4:Sat W w' (sep (Gu I Vy y) (sep (Gx I (P+1) P 140 dP pre) X)):=dI hS;unfold Gu at h4;obtain⟨hf,h6⟩:=Sat.fact.1 h4;obtain⟨y1,y2⟩:=y;obtain⟨yo,yn,yi,yk⟩:=y2;obtain⟨u1,d1,u2,d2,e,hi,hk⟩:=dW.1 hf.1;dsimp only at e hf hK;subst e;have h7:=h6.alloc (.cells #[.int .i64 yo,.int .i64 yn,.slice u1 yi.length d1,.slice u2 yk.length d2] 34);have h5:=hK w'.heap.size _ (show Sat W (w'.alloc (.cells #[.int .i64 yo,.int .i64 yn,.slice u1 yi.length d1,.slice u2 yk.length d2] 34)) (sep (sep (fact _) (sep _ _)) X) by rw[aj,aj];exact Sat.fact.2 ⟨hf,h7⟩);simp only[lsA,lsB,lq] at h5;have H5:=ah h5;clear hK hS h4 h5 h6 h7 hf hi hk;dsimp only[su] at *;gi_wp2_with fail;simpa using H5.out
  case body=>
   as_aux_lemma=>
   intro lp pre y g w' X hlen hS;simp only[lsA,lsB,lq];rw[aj,aj] at hS;obtain⟨hf,h4⟩:=Sat.fact.1 hS;unfold Gx at h4;obtain⟨y1,y2⟩:=y;obtain⟨yo,yn,yi,yk⟩:=y2;obtain⟨u1,d1,u2,d2,e,hi,hk⟩:=dW.1 hf.1;dsimp only at e hf h4;subst e;have h5:Sat W w' (sep (fact ((oN (pre.map (·.2))).length≤3000*pre.length)) (sep (dP P (oN (pre.map (·.2)))) (sep (kn I) (sep (blk g (.cells #[.int .i64 yo,.int .i64 yn,.slice u1 yi.length d1,.slice u2 yk.length d2] 34 (0,0))) (sep (blk (P+1) (.cells #[.pointer (some ⟨P,0,none⟩)] 140 (0,0))) X))))):=dI h4;obtain⟨hlb,h6⟩:=Sat.fact.1 h5;obtain⟨E0,hE0⟩:=aC (oN (pre.map (·.2)));rw[←hE0] at h6 hlb;have BN:=hf.2.1;rw[Fm.n64] at BN;obtain⟨ni,hni⟩:=aC (yi.length);obtain⟨nk,hnk⟩:=aC (yk.length);have adN:ni≤32:=by rw[hni];exact hf.2.2.1
   have afO:nk≤1000000:=by rw[hnk];exact hf.2.2.2
   have hnb:=Uk hf.2;have hNB:rG (Fm.mk yo yn yi yk)=PA.encI yo++PA.encI yn++PA.encI ni++dU yi++PA.encI nk:=by rw[hni,hnk];rfl
   rw[←hni,←hnk] at h6;rw[←hni] at hi;obtain⟨E1,hE1⟩:=aC (E0++PA.encI yo);obtain⟨E2,hE2⟩:=aC (E1++PA.encI yn);obtain⟨E3,hE3⟩:=aC (E2++PA.encI ni);have e1:=eP BN.1.1 BN.1.2;have e2:=eP BN.2.1.1 BN.2.1.2;have e3:=eP (r:=(ni:Int)) (by omega) (by omega);have hl0:E0.length≤300000:=by omega
   have hl1:E1.length≤300010:=by rw[hE1,dM];omega
   have hl2:E2.length≤300020:=by rw[hE2,dM];omega
   have hl3:E3.length≤300030:=by rw[hE3,dM];omega
   have HW0:Hid (∀w' A',Sat W w' (sep (dP P E0) A')→Calls Tryz.prog 72 #[.pointer (some ⟨P,0,none⟩),.int .i64 yo] w' fun e w''=>e=.returned (.tuple #[])∧Sat W w'' (sep (dP P E1) A')):=ah fun w' A' h'=>by rw[hE1];exact iV P E0 yo BN.1.1 BN.1.2 h' (by omega)
   have HW1:Hid (∀w' A',Sat W w' (sep (dP P E1) A')→Calls Tryz.prog 72 #[.pointer (some ⟨P,0,none⟩),.int .i64 yn] w' fun e w''=>e=.returned (.tuple #[])∧Sat W w'' (sep (dP P E2) A')):=ah fun w' A' h'=>by rw[hE2];exact iV P E1 yn BN.2.1.1 BN.2.1.2 h' (by omega)
   have HW2:Hid (∀w' A',Sat W w' (sep (dP P E2) A')→Calls Tryz.prog 72 #[.pointer (some ⟨P,0,none⟩),.int .i64 (ni:Nat)] w' fun e w''=>e=.returned (.tuple #[])∧Sat W w'' (sep (dP P E3) A')):=ah fun w' A' h'=>by rw[hE3];exact iV P E2 ni (by omega) (by omega) h' (by omega)
   have KW:Hid (∀w' A',Sat W w' (sep (dP P (E3++dU yi)) A')→Calls Tryz.prog 72 #[.pointer (some ⟨P,0,none⟩),.int .i64 (nk:Nat)] w' fun e w''=>e=.returned (.tuple #[])∧Sat W w'' (sep (dP P (E0++rG (Fm.mk yo yn yi yk))) A')):=ah fun w' A' h'=>by
    have e6:E0++rG (Fm.mk yo yn yi yk)=(E3++dU yi)++PA.encI nk:=by rw[hNB,hE3,hE2,hE1];simp only[kZ]
    rw[e6];have hiv:=xG BN.2.2.1;exact iV P _ nk (by omega) (by omega) h' (by rw[dM];omega)
   have HIV:=ah (aH hi (aH BN.2.2.1 (aH hni hl3)));have QV:Hid ((oN ((pre++[((([.int .i64 yo,.int .i64 yn,.slice u1 ni d1,.slice u2 nk d2]:List Value),Fm.mk yo yn yi yk):FV)]).map (·.2))=E0++rG (Fm.mk yo yn yi yk))∧(E0++rG (Fm.mk yo yn yi yk)).length≤3000*(pre++[(([.int .i64 yo,.int .i64 yn,.slice u1 ni d1,.slice u2 nk d2],Fm.mk yo yn yi yk):FV)]).length):=ah ⟨by
    rw[qy,hE0];exact TM _ _,by
    rw[dM,dM];simp only[oP,List.length_nil];omega⟩
   have ahD:(ni:Int)≤32:=by omega
   have ahE:(nk:Int)≤1000000:=by omega
   have hyl:yi.length=ni:=hni.symm;have adZ:yk.length=nk:=hnk.symm;simp only[hyl,adZ];obtain⟨k0,k1,k2,k3⟩:=lH h6.p2;have c0:w'.cell? ⟨P+1,0,none⟩=some (.pointer (some ⟨P,0,none⟩)):=h6.p3.cell 0;have H6:=ah h6;clear hS h4 h5 h6 hf hi hk hlb hE0 BN hni hnk adN afO hnb hNB hE1 hE2 hE3 e1 e2 e3 hl0 hl1 hl2 hl3 hyl adZ hlen;gi_wp2_with fail;refine⟨trivial,(callsIn_wide.2 (HW0.out _ _ H6.out)).mono ?_⟩;rintro e w2 ⟨rfl,h7⟩;clear k0 k1 k2 k3 c0 H6 HW0;obtain⟨k0,k1,k2,k3⟩:=lH h7.p2;have c0:w2.cell? ⟨P+1,0,none⟩=some (.pointer (some ⟨P,0,none⟩)):=h7.p3.cell 0;have H7:=ah h7;clear h7;gi_wp2_with fail;refine⟨trivial,(callsIn_wide.2 (HW1.out _ _ H7.out)).mono ?_⟩;rintro e w3 ⟨rfl,h8⟩;clear k0 k1 k2 k3 c0 H7 HW1;obtain⟨k0,k1,k2,k3⟩:=lH h8.p2;have c0:w3.cell? ⟨P+1,0,none⟩=some (.pointer (some ⟨P,0,none⟩)):=h8.p3.cell 0;have H8:=ah h8;clear h8;gi_wp2_with fail;refine⟨trivial,(callsIn_wide.2 (HW2.out _ _ H8.out)).mono ?_⟩;rintro e w4 ⟨rfl,h9⟩;clear k0 k1 k2 k3 c0 H8 HW2;obtain⟨k0,k1,k2,k3⟩:=lH h9.p2;have H9:=ah h9;clear h9;gi_wp2_with fail;clear k0 k1 k2 k3
   gi_loopw [35] (fun iv wr=>∃k:Nat,iv=.int .i64 k∧k≤ni∧Sat W wr (sep (dP P (E3++dU (yi.take k))) (sep (kn I) (sep (blk g (.cells #[.int .i64 yo,.int .i64 yn,.slice u1 ni d1,.slice u2 nk d2] 34 (0,0))) (sep (blk (P+1) (.cells #[.pointer (some ⟨P,0,none⟩)] 140 (0,0))) X))))) (fun iv _=>ni-(intOf iv).toNat)
   case atStart=>exact⟨0,rfl,by omega,by simpa[dU] using H9.out⟩
   case round=>
    obtain⟨k,rfl,hk,hS⟩:=hrel;clear H9;by_cases hlt:k<ni
    ·as_aux_lemma=>
     have hltz:(k:Int)<(ni:Int):=by omega
     obtain⟨x,hx⟩:∃x,yi[k]?=some x:=⟨_,iM (by have:=HIV.out.2.2.1;omega)⟩
     obtain⟨b,o,rfl,hcell⟩:=vU HIV.out.1 hx;obtain⟨j0,j1,j2,j3,j4,j5,j6,j7⟩:=hcell wr hS.p1.ext;have oO:=HIV.out.2.1 x (mZ hx);have htk:=Ba hx;have hbl:(E3++dU (yi.take k)).length≤310000:=by
      rw[dM];have h1:=Hg yi k;have h2:=xG HIV.out.2.1;have:=HIV.out.2.2.1;have:=HIV.out.2.2.2;omega
     have hA:=hS.alloc (.cells #[.int .i64 x.ln,.int .i64 x.ld,.int .i64 x.hn,.int .i64 x.hd,.bool x.lo,.bool x.ho,.bool x.li,.bool x.hi] 159);obtain⟨GI,hGI⟩:=aC (wr.heap.size);obtain⟨w5,hw5⟩:=aC (wr.alloc (.cells #[.int .i64 x.ln,.int .i64 x.ld,.int .i64 x.hn,.int .i64 x.hd,.bool x.lo,.bool x.ho,.bool x.li,.bool x.hi] 159));rw[←hGI,←hw5] at hA;have hd:=hA.drew;obtain⟨wd,hwd⟩:=aC (w5.drew);rw[←hwd] at hd;have hS0:wd.cell? ⟨P+1,0,none⟩=some (.pointer (some ⟨P,0,none⟩))∧wd.cell? ⟨GI,0,none⟩=some (.int .i64 x.ln)∧wd.cell? ⟨GI,1,none⟩=some (.int .i64 x.ld)∧wd.cell? ⟨GI,2,none⟩=some (.int .i64 x.hn)∧wd.cell? ⟨GI,3,none⟩=some (.int .i64 x.hd)∧wd.cell? ⟨GI,4,none⟩=some (.bool x.lo)∧wd.cell? ⟨GI,5,none⟩=some (.bool x.ho)∧wd.cell? ⟨GI,6,none⟩=some (.bool x.li)∧wd.cell? ⟨GI,7,none⟩=some (.bool x.hi):=⟨hd.p4.cell 0,Nk hd⟩
     have jY:=ah hwd;have HGI:=ah (aH hGI hw5);have HD:=ah hd;have HK:=ah (aH hlt (aH htk (aH oO hbl)));clear hS hcell hx oO htk hbl hA hGI hw5 hd hwd hlt hk;gi_upto_region 13 with fail;rw[←HGI.out.1,←HGI.out.2];clear j0 j1 j2 j3 j4 j5 j6 j7;refine BZ rfl (fun w'=>w'.cell? ⟨P+1,0,none⟩=some (.pointer (some ⟨P,0,none⟩))∧w'.cell? ⟨GI,0,none⟩=some (.int .i64 x.ln)∧w'.cell? ⟨GI,1,none⟩=some (.int .i64 x.ld)∧w'.cell? ⟨GI,2,none⟩=some (.int .i64 x.hn)∧w'.cell? ⟨GI,3,none⟩=some (.int .i64 x.hd)∧w'.cell? ⟨GI,4,none⟩=some (.bool x.lo)∧w'.cell? ⟨GI,5,none⟩=some (.bool x.ho)∧w'.cell? ⟨GI,6,none⟩=some (.bool x.li)∧w'.cell? ⟨GI,7,none⟩=some (.bool x.hi)) [(0,.s),(1,.p),(2,.p),(3,.s),(4,.p),(5,.p),(6,.s),(7,.p),(8,.p),(9,.s),(10,.p),(11,.p),(12,.s),(13,.p),(14,.t),(16,.p),(17,.s),(19,.p),(20,.s),(22,.p),(23,.s),(15,.e true),(18,.e true),(21,.e true),(24,.e true),(25,.e true),(26,.e false)] (by kernel_rfl) ?_ ?_
     ·exact fun ⟨_,_,h⟩=>h
     rw[←jY.out];refine bG ?_
     (refine jJ rfl rfl (fun K hK=>?_);go_simp)
     refine (qC _ _).mono ?_;rintro e wn ⟨rfl,rfl⟩
     (refine hK _ _ (fun _=>hS0) ?_;clear hK K;(try simp only[Act.put,lsA,lsB,lq]))
     (refine jJ rfl rfl (fun K hK=>?_);go_simp)
     refine (qC _ _).mono ?_;rintro e wn ⟨rfl,rfl⟩
     (refine hK _ _ (fun _=>hS0) ?_;clear hK K;(try simp only[Act.put,lsA,lsB,lq]))
     (refine jJ rfl rfl (fun K hK=>?_);go_simp)
     refine (qC _ _).mono ?_;rintro e wn ⟨rfl,rfl⟩
     (refine hK _ _ (fun _=>hS0) ?_;clear hK K;(try simp only[Act.put,lsA,lsB,lq]))
     (refine jJ rfl rfl (fun K hK=>?_);go_simp)
     refine (qC _ _).mono ?_;rintro e wn ⟨rfl,rfl⟩
     (refine hK _ _ (fun _=>hS0) ?_;clear hK K;(try simp only[Act.put,lsA,lsB,lq]))
     have hbs:=VT wd x.ln x.ld x.hn x.hd (je x.lo) (je x.ho) (je x.li) (je x.hi);have hA:=HD.out.alloc (.cells #[.int .i64 x.ln,.int .i64 x.ld,.int .i64 x.hn,.int .i64 x.hd,.int .i64 (je x.lo),.int .i64 (je x.ho),.int .i64 (je x.li),.int .i64 (je x.hi)] 3);obtain⟨GL,hGL⟩:=aC (wd.heap.size);obtain⟨we,hwe⟩:=aC (wd.alloc (.cells #[.int .i64 x.ln,.int .i64 x.ld,.int .i64 x.hn,.int .i64 x.hd,.int .i64 (je x.lo),.int .i64 (je x.ho),.int .i64 (je x.li),.int .i64 (je x.hi)] 3));rw[←hGL,←hwe] at hbs hA;have hA2:Sat W we (sep (dP P (E3++dU (yi.take k))) (sep (blk GL (.cells #[.int .i64 x.ln,.int .i64 x.ld,.int .i64 x.hn,.int .i64 x.hd,.int .i64 (je x.lo),.int .i64 (je x.ho),.int .i64 (je x.li),.int .i64 (je x.hi)] 3 (0,0))) (sep (blk GI (.cells #[.int .i64 x.ln,.int .i64 x.ld,.int .i64 x.hn,.int .i64 x.hd,.bool x.lo,.bool x.ho,.bool x.li,.bool x.hi] 159 (0,0))) (sep (kn I) (sep (blk g (.cells #[.int .i64 yo,.int .i64 yn,.slice (some ⟨b,o,none⟩) ni d1,.slice u2 nk d2] 34 (0,0))) (sep (blk (P+1) (.cells #[.pointer (some ⟨P,0,none⟩)] 140 (0,0))) X)))))):=dI hA;have hS1:we.cell? ⟨P+1,0,none⟩=some (.pointer (some ⟨P,0,none⟩))∧we.cell? ⟨GI,0,none⟩=some (.int .i64 x.ln)∧we.cell? ⟨GI,1,none⟩=some (.int .i64 x.ld)∧we.cell? ⟨GI,2,none⟩=some (.int .i64 x.hn)∧we.cell? ⟨GI,3,none⟩=some (.int .i64 x.hd)∧we.cell? ⟨GI,4,none⟩=some (.bool x.lo)∧we.cell? ⟨GI,5,none⟩=some (.bool x.ho)∧we.cell? ⟨GI,6,none⟩=some (.bool x.li)∧we.cell? ⟨GI,7,none⟩=some (.bool x.hi):=⟨hA2.p5.cell 0,Nk hA2.p2⟩
     have hcall:=Bj P (E3++dU (yi.take k)) (some ⟨GL,0,none⟩) 8 8 (PA.dL x) rfl (by simp[PA.dL]) HK.out.2.2.1 (fun w' B' hs j r hr=>⟨GL,0,rfl,by
      have hc:=hs.p1.cell j;rw[Nat.zero_add,hc]
      match j,hr with
      | 0,hr|1,hr|2,hr|3,hr|4,hr|5,hr|6,hr|7,hr=>simp[PA.dL] at hr;subst hr;rfl
      | j+8,hr=>simp[PA.dL] at hr⟩) hA2 (by have:=HK.out.2.2.2;omega)
     rw[kZ,←HK.out.2.1] at hcall;have HC:=ah hcall;clear hA hA2 hcall hGL hwe HD
     (refine jJ rfl rfl (fun K hK=>?_);go_simp)
     (refine hK _ _ (fun _=>hS1) ?_;clear hK K;(try simp only[Act.put,lsA,lsB,lq]))
     (refine jJ rfl rfl (fun K hK=>?_);go_simp)
     refine HC.out.mono ?_;rintro e w6 ⟨rfl,h10⟩;have KD:Hid (Sat W w6 (sep (dP P (E3++dU (yi.take (k+1)))) (sep (kn I) (sep (blk g (.cells #[.int .i64 yo,.int .i64 yn,.slice (some ⟨b,o,none⟩) ni d1,.slice u2 nk d2] 34 (0,0))) (sep (blk (P+1) (.cells #[.pointer (some ⟨P,0,none⟩)] 140 (0,0))) X))))):=ah (by
      have h11:Sat W w6 (sep (blk GL (.cells #[.int .i64 x.ln,.int .i64 x.ld,.int .i64 x.hn,.int .i64 x.hd,.int .i64 (je x.lo),.int .i64 (je x.ho),.int .i64 (je x.li),.int .i64 (je x.hi)] 3 (0,0))) (sep (blk GI (.cells #[.int .i64 x.ln,.int .i64 x.ld,.int .i64 x.hn,.int .i64 x.hd,.bool x.lo,.bool x.ho,.bool x.li,.bool x.hi] 159 (0,0))) (sep (dP P (E3++dU (yi.take (k+1)))) (sep (kn I) (sep (blk g (.cells #[.int .i64 yo,.int .i64 yn,.slice (some ⟨b,o,none⟩) ni d1,.slice u2 nk d2] 34 (0,0))) (sep (blk (P+1) (.cells #[.pointer (some ⟨P,0,none⟩)] 140 (0,0))) X)))))):=dI h10;exact h11.forget.forget)
     clear h10 HC hS0 hS1;refine dY ?_;clear hK K;refine bG ?_;refine dJ ?_;gi_wp2_with fail;go_roundw;case rel=>exact⟨k+1,by go_num,by have:=HK.out.1;omega,KD.out⟩
     case measure=>simp[intOf];have:=HK.out.1;omega
    ·obtain rfl:k=ni:=by omega
     have hS2:Sat W wr (sep (dP P (E3++dU yi)) (sep (kn I) (sep (blk g (.cells #[.int .i64 yo,.int .i64 yn,.slice u1 k d1,.slice u2 nk d2] 34 (0,0))) (sep (blk (P+1) (.cells #[.pointer (some ⟨P,0,none⟩)] 140 (0,0))) X)))):=by
      rw[List.take_of_length_le (by have:=HIV.out.2.2.1;omega)] at hS;exact hS
     obtain⟨k0,k1,k2,k3⟩:=lH hS2.p2;have c0:wr.cell? ⟨P+1,0,none⟩=some (.pointer (some ⟨P,0,none⟩)):=hS2.p3.cell 0;have H2:=ah hS2;clear hS hS2 hlt hk;gi_wp2_with fail;refine⟨trivial,(callsIn_wide.2 (KW.out _ _ H2.out)).mono ?_⟩;rintro e w5 ⟨rfl,h10⟩;have KD:Hid (Sat W w5 (sep (Gx I (P+1) P 140 dP (pre++[([.int .i64 yo,.int .i64 yn,.slice u1 k d1,.slice u2 nk d2],Fm.mk yo yn yi yk)])) X)):=ah (by
      unfold Gx;rw[QV.out.1];have h11:Sat W w5 (sep (fact ((E0++rG (Fm.mk yo yn yi yk)).length≤3000*(pre++[(([.int .i64 yo,.int .i64 yn,.slice u1 k d1,.slice u2 nk d2],Fm.mk yo yn yi yk):FV)]).length)) (sep (kn I) (sep (blk (P+1) (.cells #[.pointer (some ⟨P,0,none⟩)] 140 (0,0))) (sep (dP P (E0++rG (Fm.mk yo yn yi yk))) X)))):=Sat.fact.2 ⟨QV.out.2,by
       have h12:Sat W w5 (sep (blk g (.cells #[.int .i64 yo,.int .i64 yn,.slice u1 k d1,.slice u2 nk d2] 34 (0,0))) (sep (kn I) (sep (blk (P+1) (.cells #[.pointer (some ⟨P,0,none⟩)] 140 (0,0))) (sep (dP P (E0++rG (Fm.mk yo yn yi yk))) X)))):=dI h10;exact h12.forget⟩
      simpa only[aA,au,aj] using h11)
     clear h10 H2 k0 k1 k2 k3 c0;gi_wp2_with fail;exact KD.out
  case done=>
   as_aux_lemma=>
   intro D xs w' hxs hS;have hen:oN (xs.map (·.2))=E:=by rw[hxs,HPP.out.2.2,PG]
   unfold Gx at hS;rw[hen] at hS;have h7:Sat W w' (sep (fact (E.length≤3000*xs.length)) (sep (dP P E) (sep (blk D (.deferred (some []))) (sep (kn I) (sep (blk (P+1) (.cells #[.pointer (some ⟨P,0,none⟩)] 140 (0,0))) (sep (kn I) (sep (blk B (.cells #[.int .i64 p,.int .i64 q,.slice x1 n1 c1,.slice x2 n2 c2] 34 (0,0))) A))))))):=dI hS;obtain⟨hlb,h8⟩:=Sat.fact.1 h7;have hxl:xs.length≤96:=by
    have h1:xs.length=f.nodes.length:=by rw[←hxs,List.length_map]
    rw[h1,Fm.vX];exact HPP.out.1
   have jY:=ah (pG P E h8 (by omega));have c0:w'.cell? ⟨P+1,0,none⟩=some (.pointer (some ⟨P,0,none⟩)):=h8.p3.cell 0;clear hS h7 h8 hlb hxl hen hxs h6 HR;go_wp2_with fail;refine jY.out.mono ?_;rintro e w5 ⟨a,c,rfl,h9⟩;have h10:Sat W w5 (sep (blk D (.deferred (some []))) (sep (aT 5 1 a E.length c (E.map bv)) (sep (kn I) (sep (dP P E) (sep (kn I) (sep (blk (P+1) (.cells #[.pointer (some ⟨P,0,none⟩)] 140 (0,0))) (sep (blk B (.cells #[.int .i64 p,.int .i64 q,.slice x1 n1 c1,.slice x2 n2 c2] 34 (0,0))) A))))))):=dI h9;have hD:=h10.aO;have h11:=(h10.putObj (.deferred none)).drop;obtain⟨J,hle,hrb,h12⟩:=iK h11 rfl;have HF:Hid (Mem.le I J∧bZ.rel J [.slice a E.length c] E∧Sat W (w5.putObj D (.deferred none)) (sep (kn J) A)):=ah ⟨hle,hrb,by
    have h13:Sat W (w5.putObj D (.deferred none)) (sep (dP P E) (sep (kn I) (sep (blk (P+1) (.cells #[.pointer (some ⟨P,0,none⟩)] 140 (0,0))) (sep (blk B (.cells #[.int .i64 p,.int .i64 q,.slice x1 n1 c1,.slice x2 n2 c2] 34 (0,0))) (sep (kn J) A))))):=dI h12;obtain⟨a',n',c',-,wG⟩:=rE h13;exact wG.drop.drop.drop.drop.drop⟩
   clear h9 h10 h11 hle hrb h12 jY c0;go_wp2_with fail;refine⟨by simp,.inl ⟨_,_,rfl,run_takeDeferred hD,?_⟩⟩;refine⟨.tuple #[.slice a E.length c,.int .i64 0],?_,?_⟩
   ·simp[results,Tryz.results75,go_sem]
   ·rw[bK.out]
    exact⟨a,E.length,c,J,rfl,HF.out.1,HF.out.2.1,HF.out.2.2⟩
  case stop=>
   intro D c xs w' _ hS;exact absurd (Sat.fact.1 (show Sat W w' (sep (fact False) _) from hS.p1)).1 (fun h=>h)
 ·have IW:=ah (kY.out.1 hb0)
  have hb1:(rv !=0)=true:=by simpa using hb0
  have hb2:(rv==0)=false:=by simpa using hb0
  clear kY hb0 HPN;refine (callsIn_wide (n:=5)).1 ?_;refine callsIn_of_wp_marks Tryz.func75 rfl trivial ?_ rfl;simp only[Tryz.ntmps75,List.size_toArray,oP,List.length_nil,Nat.reduceAdd,Nat.reduceSub,Array.replicate_succ,Array.replicate_zero,List.push_toArray,List.append_toArray,tK,pV];refine wpIn_wide.2 ?_;go_upto_region 1 with fail;rw[←HB.out.1,←HB.out.2];go_wp2_with fail;refine (wF.out _ _ H1.out.p1).mono ?_;rintro e w2 ⟨rfl,h2⟩;have HF:=ah h2.p1.drop;clear h2 wF k0 k1 k2 k3;go_wp2_with fail;refine⟨.tuple #[.slice none 0 0,.int .i64 rv],?_,?_⟩
  ·simp[results,Tryz.results75,go_sem]
  ·rw[bK.out]
   exact⟨none,0,0,I,rfl,bW I,by rw[IW.out];exact jq I,HF.out⟩
end Go.Proofs.YthfmaclnccdcbaaGreatDoor
