/- Part of a proof. -/
import Derived.Test.YthfmaclnccdcbaaGreatDoorGActsOrder7
namespace PA
open Go Go.RowKit
section
variable {α:Type} {F:Fence} {P:Program}
def wu (F:Fence) (n:Nat) (P:Program) (W:World) (l:Nat) (encs:α→Array Value) (Fx:α→aC) (N:Nat) (R Z:List α→aC):Prop:=
 ∀(pre:List α) (x:α) (w:World) (B:aC),pre.length<N→Sat W w (sep (R pre) (sep (Fx x) B)) →
  YieldAt F n P l (encs x) w fun e w'=>(e=.returned (.bool true)∧Sat W w' (sep (R (pre++[x])) B))∨(e=.returned (.bool false)∧Sat W w' (sep (Z (pre++[x])) B))
def Bd (F:Fence) (n:Nat) (P:Program) (W:World) (gf:Nat) (lb:Array Value) (encs:α→Array Value) (Fx:α→aC) (N:Nat) (S Sp:List α→Prop) (Pre Post:aC):Prop:=
 ∀(l:Nat) (R Z:List α→aC) (w:World),wu F (n-1) P W l encs Fx N R Z→Sat W w (sep (R []) Pre) →
  CallsIn F n P gf (#[.func (.yield l) #[] #[]]++lb) w fun e w'=>(∃v,e=.returned v)∧((∃xs,S xs∧Sat W w' (sep (R xs) Post))∨∃xs,Sp xs∧Sat W w' (sep (Z xs) Post))
def SS (W:World) (A:aC) (Z:Code→aC):Exit→Act→World→Prop
 | .normal,_,w=>Sat W w A
 | .ret,_,w=>Sat W w (Z .ret)
 | .exit id,_,w=>Sat W w (Z (.exit id))
 | _,_,_=>False
theorem I7 {n:Nat} {W:World} {g:Operand} {ps:Array Tmp} {assign body:Code} {Q:Exit→Act→World→Prop} {a:Act} {w:World}
 (hro:F.round=none) (h1:1≤n) {gf:Nat} {lb:Array Value} (hg:a.eval g=.func (.func gf) #[] lb) (hFg:F.fn gf) (eg:∀args w,(callFunc gf args).run P w=.ok (.enter gf args) w)
 {encs:α→Array Value} {Fx:α→aC} {N:Nat} {S Sp:List α→Prop} {Pre Post:aC} (hps:∀x,(encs x).size=ps.size)
 (hseq:Bd F (n-1) P W gf lb encs Fx N S Sp Pre Post)
 (C:List α→aC) (Zc:Code→List α→aC) (h0:Sat W w (sep (C []) Pre)) (Mid:List α→α→Act→aC→Prop)
 (hassign:∀(l:Nat) (pre:List α) (x:α) (w':World) (B:aC) (K:Act→World→Prop),pre.length<N→Sat W w' (sep (C pre) (sep (Fx x) B))→(∀a₁ w₁ E,Mid pre x a₁ E→Sat W w₁ (sep E B)→K a₁ w₁) →
  assign.wpIn (F.inRound l) (n-1-1) P (Exit.then K (fun _ _ _=>False)) { tmps:=(ps.zip (encs x)).foldl (fun t (p,v)=>t.setIfInBounds p v) a.tmps,defers:=[] } w')
 (hbody:∀(l:Nat) (pre:List α) (x:α) (a₁:Act) (E:aC) (w':World) (B:aC),pre.length<N→Mid pre x a₁ E→Sat W w' (sep E B) →
  body.wpIn (F.inRound l) (n-1-1) P (SS W (sep (C (pre++[x])) B) (fun c=>sep (Zc c (pre++[x])) B)) a₁ w')
 (hdone:∀(D:Nat) (xs:List α) (w':World),S xs→Sat W w' (sep (blk D (.deferred (some []))) (sep (C xs) Post)) →
  Q .normal { a with defers:={ target:=.collected D,args:=#[] }::a.defers } w')
 (hstop:∀(D:Nat) (c:Code) (xs:List α) (w':World),Sp xs→Sat W w' (sep (blk D (.deferred (some []))) (sep (Zc c xs) Post)) →
  c.wpIn F n P Q { a with defers:={ target:=.collected D,args:=#[] }::a.defers } w'):
 (Code.rangeFunc g ps assign body).wpIn F n P Q a w:=by
 refine wpIn_rangeFunc fun fn hfn=>?_
 rw[hro];obtain⟨D,hD⟩:=aB (w.heap.size);obtain⟨mk,hmk⟩:∃mk:LoopState→Option Code→Loop,mk=fun st pe=>⟨st,pe,fn,a.tmps,ps,assign,body,D⟩:=⟨_,rfl⟩
 obtain⟨w1,hw1⟩:=aB ((w.alloc (.deferred (some []))).alloc (.loop (mk .ready none)));have hS1:Sat W w1 (sep (sep (C []) (sep (blk (D+1) (.loop (mk .ready none))) (blk D (.deferred (some []))))) Pre):=by
  have h:=(h0.alloc (.deferred (some []))).alloc (.loop (mk .ready none));rw[World.size_alloc,←hw1,←hD] at h;simpa only[aA,ay,aj] using h
 have henter:=run_enterLoop_outer (P:=P) (w:=w) fn a.tmps ps assign body;refine⟨D+1,[{ target:=.collected D,args:=#[] }],w1,{ target:=.fn (.func gf) lb,args:=#[.func (.yield (D+1)) #[] #[]] },w1,gf,#[.func (.yield (D+1)) #[] #[]]++lb,w1,?_,?_,?_,?_,fun _=>h1,?_⟩
 ·rw[hw1,hmk,hD];exact henter
 ·simp only[resolve,hg]
  simp[go_sem]
 ·intro f' hf';simp[Target.leads] at hf';subst hf';exact hFg
 ·simp[invoke,go_sem,eg]
 ·refine (hseq (D+1) (fun pre=>sep (C pre) (sep (blk (D+1) (.loop (mk .ready none))) (blk D (.deferred (some [])))))
   (fun pre=>ex fun c:Code=>sep (Zc c pre) (sep (blk (D+1) (.loop (mk .done (some c)))) (blk D (.deferred (some []))))) w1 ?_ hS1).mono ?_
  ·intro pre x w2 B hlen hS
   have hl:Sat W w2 (sep (blk (D+1) (.loop (mk .ready none))) (sep (C pre) (sep (Fx x) (sep B (blk D (.deferred (some []))))))):=dJ hS;have hy:=run_yield (P:=P) (args:=encs x) hl.aO (by rw[hmk];exact hps x);rw[hmk] at hy;refine⟨fn,_,assign,body,hy,roundIn_of_wpIn hfn (hassign _ pre x w2 (sep (blk (D+1) (.loop (mk .ready none))) (sep B (blk D (.deferred (some []))))) _ hlen (by simpa only[aA,ay,aj] using hS) ?_)⟩;intro a₁ w₁ E hmid hE;have hl1:Sat W w₁ (sep (blk (D+1) (.loop (mk .ready none))) (sep E (sep B (blk D (.deferred (some [])))))):=dJ hE;refine⟨_,run_beginRound hl1.aO (by rw[hmk]),?_⟩;have h3:=(hl1.putObj (.loop { mk .ready none with state:=.busy })).p1;have ebz:({ mk .ready none with state:=.busy }:Loop)=mk .busy none:=by rw[hmk]
   refine wpIn_mono (hbody _ pre x a₁ E _ (sep (blk (D+1) (.loop { mk .ready none with state:=.busy })) (sep B (blk D (.deferred (some []))))) hlen hmid (by simpa only[aA,ay,aj] using h3)) ?_;have stop:∀(c:Code) (w3:World),Sat W w3 (sep (Zc c (pre++[x])) (sep (blk (D+1) (.loop { mk .ready none with state:=.busy })) (sep B (blk D (.deferred (some [])))))) →
    ∃v w',(Instr.endRound (D+1) (some c)).run P w3=.ok v w'∧((Ending.returned v=.returned (.bool true)∧Sat W w' (sep (sep (C (pre++[x])) (sep (blk (D+1) (.loop (mk .ready none))) (blk D (.deferred (some []))))) B)) ∨
     (Ending.returned v=.returned (.bool false)∧Sat W w' (sep (ex fun c:Code=>sep (Zc c (pre++[x])) (sep (blk (D+1) (.loop (mk .done (some c)))) (blk D (.deferred (some []))))) B))):=by
    intro c w3 hp;have h4:Sat W w3 (sep (blk (D+1) (.loop { mk .ready none with state:=.busy })) (sep (Zc c (pre++[x])) (sep B (blk D (.deferred (some [])))))):=Sat.p1 hp;have hr:=run_endRound (P:=P) (some c) h4.aO;have h5:=h4.putObj (.loop (mk .done (some c)));refine⟨_,_,hr,.inr ⟨rfl,?_⟩⟩;rw[ebz];have e2:({ mk .busy none with state:=if (some c:Option Code).isNone then .ready else .done,pending:=some c }:Loop)=mk .done (some c):=by rw[hmk];rfl
    rw[e2,fK,Sat.ex];exact⟨c,by simpa only[aA,ay,aj] using h5⟩
   rintro e a3 w3 hp;cases e with
   | normal=>
    have h4:Sat W w3 (sep (blk (D+1) (.loop { mk .ready none with state:=.busy })) (sep (C (pre++[x])) (sep B (blk D (.deferred (some [])))))):=Sat.p1 hp;have hr:=run_endRound (P:=P) none h4.aO;have h5:=h4.putObj (.loop (mk .ready none));refine⟨_,_,hr,.inl ⟨rfl,?_⟩⟩;rw[ebz];have e2:({ mk .busy none with state:=if (none:Option Code).isNone then .ready else .done,pending:=none }:Loop)=mk .ready none:=by rw[hmk];rfl
    rw[e2];simpa only[aA,ay,aj] using h5
   | ret=>exact stop .ret w3 hp
   | exit id=>exact stop (.exit id) w3 hp
   | goto t=>exact hp.elim
   | panic ch=>exact hp.elim
   | outgrown=>exact hp.elim
  ·rintro e w2 ⟨⟨v,rfl⟩,⟨xs,hS,h2⟩|⟨xs,hS,h2⟩⟩
   ·have h3:Sat W w2 (sep (blk (D+1) (.loop (mk .ready none))) (sep (C xs) (sep Post (blk D (.deferred (some [])))))):=dJ h2
    have e:(mk .ready none).pending=none:=by rw[hmk]
    have hr:=run_endLoop (P:=P) h3.aO (by rw[hmk];simp);have h4:=(h3.putObj (.loop { mk .ready none with state:=.exhausted })).drop;rw[e] at hr;refine⟨none,_,hr,hdone D xs _ hS ?_⟩;dsimp only at h4;rw[e] at h4;simpa only[aA,ay,aj] using h4
   ·rw[fK,Sat.ex] at h2
    obtain⟨c,h2⟩:=h2;have h3:Sat W w2 (sep (blk (D+1) (.loop (mk .done (some c)))) (sep (Zc c xs) (sep Post (blk D (.deferred (some [])))))):=dJ h2;have e:(mk .done (some c)).pending=some c:=by rw[hmk]
    have hr:=run_endLoop (P:=P) h3.aO (by rw[hmk];simp);have h4:=(h3.putObj (.loop { mk .done (some c) with state:=.exhausted })).drop;rw[e] at hr;refine⟨some c,_,hr,hstop D c xs _ hS ?_⟩;dsimp only at h4;rw[e] at h4;simpa only[aA,ay,aj] using h4
theorem l9 {n:Nat} {W:World} {g:Operand} {ps:Array Tmp} {assign body:Code} {Q:Exit→Act→World→Prop} {a:Act} {w:World}
 (hro:F.round=none) (h1:1≤n) {gf:Nat} {lb:Array Value} (hg:a.eval g=.func (.func gf) #[] lb) (hFg:F.fn gf) (eg:∀args w,(callFunc gf args).run P w=.ok (.enter gf args) w)
 {encs:α→Array Value} {Fx:α→aC} {N:Nat} {S Sp:List α→Prop} {Pre Post:aC} (hps:∀x,(encs x).size=ps.size)
 (hseq:Bd F (n-1) P W gf lb encs Fx N S Sp Pre Post)
 (C:List α→aC) (Zc:Code→List α→aC) (h0:Sat W w (sep (C []) Pre)) (upd:α→Nat→Array Value→Array Value) (Cm:List α→α→Nat→aC)
 (hassign:∀(l:Nat) (pre:List α) (x:α) (w':World) (B:aC) (K:Act→World→Prop),pre.length<N→Sat W w' (sep (C pre) (sep (Fx x) B))→(∀g w₁,Sat W w₁ (sep (Cm pre x g) B)→K { tmps:=upd x g a.tmps,defers:=[] } w₁) →
  assign.wpIn (F.inRound l) (n-1-1) P (Exit.then K (fun _ _ _=>False)) { tmps:=(ps.zip (encs x)).foldl (fun t (p,v)=>t.setIfInBounds p v) a.tmps,defers:=[] } w')
 (hbody:∀(l:Nat) (pre:List α) (x:α) (g:Nat) (w':World) (B:aC),pre.length<N→Sat W w' (sep (Cm pre x g) B) →
  body.wpIn (F.inRound l) (n-1-1) P (SS W (sep (C (pre++[x])) B) (fun c=>sep (Zc c (pre++[x])) B)) { tmps:=upd x g a.tmps,defers:=[] } w')
 (hdone:∀(D:Nat) (xs:List α) (w':World),S xs→Sat W w' (sep (blk D (.deferred (some []))) (sep (C xs) Post)) →
  Q .normal { a with defers:={ target:=.collected D,args:=#[] }::a.defers } w')
 (hstop:∀(D:Nat) (c:Code) (xs:List α) (w':World),Sp xs→Sat W w' (sep (blk D (.deferred (some []))) (sep (Zc c xs) Post)) →
  c.wpIn F n P Q { a with defers:={ target:=.collected D,args:=#[] }::a.defers } w'):
 (Code.rangeFunc g ps assign body).wpIn F n P Q a w:=by
 refine I7 hro h1 hg hFg eg hps hseq C Zc h0 (fun pre x a₁ E=>∃g,a₁={ tmps:=upd x g a.tmps,defers:=[] }∧E=Cm pre x g) ?_ ?_ hdone hstop
 ·intro l pre x w' B K hl hS hK
  exact hassign l pre x w' B K hl hS fun g w₁ h=>hK _ w₁ _ ⟨g,rfl,rfl⟩ h
 ·rintro l pre x a₁ E w' B hl ⟨g,rfl,rfl⟩ hS
  exact hbody l pre x g w' B hl hS
end
end PA
namespace PA
open Go Go.RowKit
section
variable {P:Program} {ops:Array Oper} {Q:Exit→Act→World→Prop} {S:World→Prop} {W:World}
theorem Px {o:Oper} {a:Act} {Pre:aC} {v1:Value} {Post:aC} (hg:Region.wanted o (yielded ops a.tmps)=true)
 (hr:∀(w:World) (A:aC),Sat W w (sep Pre A)→∃w',(execOp a.eval o).run P w=.ok (.value v1) w'∧Sat W w' (sep Post A)):iR P ops W o a Pre (fun v=>sep (fact (v=v1)) Post):=
 ⟨hg,fun w A h=>.inl (by
  obtain⟨w',h1,h2⟩:=hr w A h;exact⟨v1,w',h1,by rw[aj];exact Sat.fact.2 ⟨rfl,h2⟩⟩)⟩
def Vy (Pre Mid Post:aC) (v1 u1 v2:Value):List Value→aC
 | []=>Pre
 | [v]=>sep (fact (v=v1)) Mid
 | [v,u]=>sep (fact (v=v1∧u=u1)) Mid
 | v::u::x::r=>sep (fact (v=v1∧u=u1∧x=v2∧r=[])) Post
theorem TT {Pre Mid Post:aC} {v1 u1 v2:Value} {a0:Act} {i k j:Nat} {oi oj:Oper} {di:Option Tmp} (hdi:aS ops i=di) (hoi:ops[i]?=some oi) (hsi:∀cs b,oi.op≠.select cs b) (hoj:ops[j]?=some oj) (hsj:∀cs b,oj.op≠.select cs b)
 (hb:((Region.before ops).getD j 0).testBit i=true) (h1:iR P ops W oi a0 Pre (fun v=>sep (fact (v=v1)) Mid)) (hpl:nX ops k=true) (hF:xY P ops (a0.put di v1) [k] [u1])
 (h2:iR P ops W oj ((a0.put di v1).put (aS ops k) u1) Mid (fun v=>sep (fact (v=v2)) Post))
 (hw2:∀v u,Region.wanted oj (yielded ops ((a0.put di v).put (aS ops k) u).tmps)=true):
 zO P ops W a0 (Vy Pre Mid Post v1 u1 v2) [] [(i,[k]),(j,[])]:=by
 subst hdi;refine⟨⟨oi,hoi,hsi,h1⟩,fun y hy=>?_,fun k' hk'=>?_,fun v w B h=>?_,fun v us hus=>?_⟩
 ·rw[List.mem_singleton.1 hy];exact hb
 ·rw[List.mem_singleton.1 hk'];exact hpl
 ·have h':Sat W w (sep (sep (fact (v=v1)) Mid) B):=h
  rw[aj] at h';obtain⟨rfl,h3⟩:=Sat.fact.1 h';refine⟨[u1],hF,?_⟩;show Sat W w (sep (sep (fact (v=v∧u1=u1)) Mid) B);rw[aj];exact Sat.fact.2 ⟨⟨rfl,rfl⟩,h3⟩
 ·match us,hus with
  | [u],_=>
   refine⟨⟨oj,hoj,hsj,hw2 v u,fun w A hS=>?_⟩,fun y hy=>(by cases hy),fun k' hk'=>(by cases hk'),fun v' w B h=>⟨[],trivial,h⟩,fun _ _ _=>trivial⟩;have hS':Sat W w (sep (sep (fact (v=v1∧u=u1)) Mid) A):=hS;rw[aj] at hS';obtain⟨⟨rfl,rfl⟩,hS2⟩:=Sat.fact.1 hS';have conv:∀(v':Value) (w':World),Sat W w' (sep (sep (fact (v'=v2)) Post) A)→Sat W w' (sep (Vy Pre Mid Post v u v2 ([v,u]++[v'])) A):=fun v' w' h=>by
    show Sat W w' (sep (sep (fact (v=v∧u=u∧v'=v2∧([]:List Value)=[])) Post) A);rw[aj] at h ⊢;obtain⟨h1,h2⟩:=Sat.fact.1 h;exact Sat.fact.2 ⟨⟨rfl,rfl,h1,rfl⟩,h2⟩
   rcases h2.2 w A hS2 with ⟨v',w',h3,h4⟩|⟨f,args,w1,h3,h4⟩
   ·exact .inl ⟨v',w',h3,conv v' w' h4⟩
   ·refine .inr ⟨f,args,w1,h3,h4.mono ?_⟩
    rintro e w' ⟨v',rfl,h5⟩;exact⟨v',rfl,conv v' w' h5⟩
theorem JE {Pre Mid Post:aC} {v1 u1 v2:Value} {A:aC} {w:World} {i k j:Nat} {dn:List (Nat×Value)} (hdn:dn.map (·.1)=[i,k,j])
 (h:Sat W w (sep (Vy Pre Mid Post v1 u1 v2 (dn.map (·.2))) A)):dn=[(i,v1),(k,u1),(j,v2)]∧Sat W w (sep Post A):=by
 match dn,hdn with
 | [(i',u),(k',x),(j',y)],hdn=>
  simp only[List.map_cons,List.map_nil,List.cons.injEq,and_true] at hdn;obtain⟨rfl,rfl,rfl⟩:=hdn;have h':Sat W w (sep (sep (fact (u=v1∧x=u1∧y=v2∧([]:List Value)=[])) Post) A):=h;rw[aj] at h';obtain⟨⟨rfl,rfl,rfl,-⟩,h3⟩:=Sat.fact.1 h';exact⟨rfl,h3⟩
end
end PA
namespace PA
open Go Go.RowKit
section
variable {P:Program} {ops:Array Oper} {Q:Exit→Act→World→Prop} {S:World→Prop} {W:World}
theorem I5 {s:zy}:∀{l:List zy},s∈l→∀A,∃X,I4 l A=sep s.now X
 | [],h,_=>by cases h
 | u::l,h,A=>by
  rcases List.mem_cons.1 h with rfl|h
  ·exact⟨_,by rw[qC,yh]⟩
  ·exact I5 h (sep u.now A)
theorem Qp {ts:List XU} {vX:List zy} (h:xw ts vX) {t:XU} (ht:t∈ts):∃s∈vX,s.A=t.A:=by
 unfold xw at h;have:(nums t.ids,t.A)∈vX.map (fun s=>(s.dn.map (·.1)++nums s.td,s.A)):=by rw[h];exact List.mem_map.2 ⟨t,ht,rfl⟩
 obtain⟨s,hs,e⟩:=List.mem_map.1 this;exact⟨s,hs,(Prod.mk.inj e).2⟩
theorem OW {a0:Act} {A:aC} {b:Bool} {K:Act→World→Prop} (ts:List XU) (hS:b=true→∃t∈ts,∀us w X,Sat W w (sep (t.A us) X)→S w) (hfin:WH ops W a0 K ts [] A):
 ∀(n:Nat) (vX:List zy) (E:List (Nat×List Nat)) (w:World),E.length=n→E.Perm (vX.flatMap (·.td))→xw ts vX→(∀s∈vX,zO P ops W a0 s.A s.dn s.td)→(vX.Pairwise fun s t=>Ti ops s.all t.all)→Sat W w (I4 vX A) →
  ou P ops Q S b n E K (puts ops (vX.flatMap (·.dn)) a0) w:=by
 intro n
 induction n with
 | zero=>
  intro vX E w hn hp hL _ _ hw;have hE:=List.eq_nil_of_length_eq_zero hn;subst hE;have:=JU vX ts [] A hL (List.nil_perm.1 hp) hfin w hw;rw[List.nil_append] at this;exact this
 | succ n ih=>
  intro vX E w hn hp hL hg hap hw i hi hr;obtain⟨s,hs,his⟩:=List.mem_flatMap.1 (hp.mem_iff.1 hi);obtain⟨S1,S2,rfl⟩:=List.append_of_mem hs;obtain⟨dn,td,AT⟩:=s;cases td with
  | nil=>simp at his
  | cons k td=>
   have hgs:=hg _ hs;obtain⟨⟨o,ho,hsel,hd⟩,hch,hplain,htl,hnext⟩:=hgs;have hik:i=k:=by
    rcases List.mem_cons.1 his with e|hm
    ·exact e
    ·exfalso
     have h1:=hch i hm;have h2:k∈E:=hp.mem_iff.2 (List.mem_flatMap.2 ⟨_,hs,by simp⟩);have h3:=List.all_eq_true.1 hr k h2;rw[h1] at h3;cases h3
   subst hik;have hall:∀j∈dn.map (·.1)++i.1::i.2,j∈zy.all ⟨dn,i::td,AT⟩:=fun j hj=>by
    unfold zy.all nums;rw[List.flatMap_cons];rcases List.mem_append.1 hj with hj|hj
    ·exact List.mem_append_left _ hj
    ·exact List.mem_append_right _ (List.mem_append_left _ hj)
   have hpw:=List.pairwise_append.1 hap;have hpc:=List.pairwise_cons.1 hpw.2.1;have hl1:∀x∈S1.flatMap (·.dn),∀j∈dn.map (·.1)++i.1::i.2,apartB ops x.1 j=true:=fun x hx j hj=>by
    obtain⟨s1,hs1,hx1⟩:=List.mem_flatMap.1 hx;exact hpw.2.2 s1 hs1 ⟨dn,i::td,AT⟩ (by simp) x.1 (List.mem_append_left _ (List.mem_map.2 ⟨x,hx1,rfl⟩)) j (hall j hj)
   have hl2:∀x∈S2.flatMap (·.dn),∀j∈dn.map (·.1)++i.1::i.2,apartB ops j x.1=true:=fun x hx j hj=>by
    obtain⟨s1,hs1,hx1⟩:=List.mem_flatMap.1 hx;exact hpc.1 s1 hs1 j (hall j hj) x.1 (List.mem_append_left _ (List.mem_map.2 ⟨x,hx1,rfl⟩))
   have YB:∀dn':List (Nat×Value),(∀y∈dn',y.1∈dn.map (·.1)++i.1::i.2)→puts ops ((S1++⟨dn',td,AT⟩::S2).flatMap (·.dn)) a0=puts ops (S2.flatMap (·.dn)) (puts ops (S1.flatMap (·.dn)) (puts ops dn' a0)):=fun dn' adO=>by
    rw[List.flatMap_append,List.flatMap_cons,jh,jh];congr 1;exact DZ dn' _ (fun x hx y hy=>hl1 x hx y.1 (adO y hy)) a0
   have YA:puts ops ((S1++⟨dn,i::td,AT⟩::S2).flatMap (·.dn)) a0=puts ops (S2.flatMap (·.dn)) (puts ops (S1.flatMap (·.dn)) (puts ops dn a0)):=by
    rw[←YB dn (fun y hy=>List.mem_append_left _ (List.mem_map.2 ⟨y,hy,rfl⟩)),List.flatMap_append,List.flatMap_append,List.flatMap_cons,List.flatMap_cons]
   have hboth:∀x∈S1.flatMap (·.dn)++S2.flatMap (·.dn),∀j∈dn.map (·.1)++i.1::i.2,apartB ops x.1 j=true∨apartB ops j x.1=true:=fun x hx j hj=>by
    rcases List.mem_append.1 hx with hx|hx
    ·exact .inl (hl1 x hx j hj)
    ·exact .inr (hl2 x hx j hj)
   have hd':iR P ops W o (puts ops ((S1++⟨dn,i::td,AT⟩::S2).flatMap (·.dn)) a0) (AT (dn.map (·.2))) (fun v=>AT (dn.map (·.2)++[v])):=by
    rw[YA,←jh];exact iR.puts ho hsel _ (fun x hx=>hboth x hx i.1 (by simp)) hd
   have hw2:Sat W w (sep (AT (dn.map (·.2))) (I4 S2 (I4 S1 A))):=by
    rw[Eo,qC,yh] at hw;exact hw
   refine hd'.wpOp ho hw2 (fun v w' hv=>?_);refine⟨fun hb=>?_,?_⟩
   ·obtain⟨t,ht,hSt⟩:=hS hb
    obtain⟨s,hs,hsA⟩:=Qp hL ht;rcases List.mem_append.1 hs with h|h
    ·obtain⟨X,hX⟩:=I5 h A
     rw[hX,yh] at hv;have hv3:Sat W w' (sep (s.A (s.dn.map (·.2))) (sep (AT (dn.map (·.2)++[v])) (I4 S2 X))):=hv.p1;rw[hsA] at hv3;exact hSt _ _ _ hv3
    ·rcases List.mem_cons.1 h with h|h
     ·have e:AT=t.A:=by rw[←hsA,h]
      rw[e] at hv;exact hSt _ _ _ hv
     ·obtain⟨X,hX⟩:=I5 h (I4 S1 A)
      rw[hX] at hv;have hv3:Sat W w' (sep (s.A (s.dn.map (·.2))) (sep (AT (dn.map (·.2)++[v])) X)):=hv.p1;rw[hsA] at hv3;exact hSt _ _ _ hv3
   ·obtain⟨us,hpu,hv2⟩:=htl v w' _ hv
    have yB:=Le hpu;have hdo:aS ops i.1=o.dst:=by unfold aS;rw[ho];rfl
    have e1:(puts ops ((S1++⟨dn,i::td,AT⟩::S2).flatMap (·.dn)) a0).put o.dst v=puts ops (S1.flatMap (·.dn)++S2.flatMap (·.dn)) (puts ops (dn++[(i.1,v)]) a0):=by
     rw[YA,←hdo,←jh,jh dn];show _=puts ops _ ((puts ops dn a0).put (aS ops i.1) v);exact (wR v _ (fun x hx=>hboth x hx i.1 (by simp)) _).symm
    rw[e1];refine zZ i.2 us _ w' hplain (Gg _ hplain (fun x hx j hj=>hboth x hx j (by simp[hj])) hpu) ?_;have e2:puts ops (i.2.zip us) (puts ops (S1.flatMap (·.dn)++S2.flatMap (·.dn)) (puts ops (dn++[(i.1,v)]) a0))=puts ops ((S1++⟨dn++(i.1,v)::i.2.zip us,td,AT⟩::S2).flatMap (·.dn)) a0:=by
     rw[YB (dn++(i.1,v)::i.2.zip us) (fun y hy=>?_)]
     ·rw[←jh (S1.flatMap (·.dn))]
      have e3:dn++(i.1,v)::i.2.zip us=(dn++[(i.1,v)])++i.2.zip us:=by simp
      rw[e3,jh (dn++[(i.1,v)])];have key:∀(z:List (Nat×Value)),(∀y∈z,y.1∈i.2)→∀(L:List (Nat×Value)),(∀x∈L,∀j∈dn.map (·.1)++i.1::i.2,apartB ops x.1 j=true∨apartB ops j x.1=true)→∀a:Act,puts ops z (puts ops L a)=puts ops L (puts ops z a):=by
       intro z
       induction z with
       | nil=>intro _ L _ a;rfl
       | cons y z ihz=>
        intro hz L hL a;show puts ops z ((puts ops L a).put (aS ops y.1) y.2)=puts ops L (puts ops z (a.put (aS ops y.1) y.2));rw[←wR y.2 L (fun x hx=>hL x hx y.1 (List.mem_append_right _ (List.mem_cons_of_mem _ (hz y (by simp))))),ihz (fun u hu=>hz u (by simp[hu])) L hL]
      exact key _ (fun y hy=>by obtain⟨y1,y2⟩:=y;exact (List.of_mem_zip hy).1) _ hboth _
     ·rcases List.mem_append.1 hy with hy|hy
      ·exact List.mem_append_left _ (List.mem_map.2 ⟨y,hy,rfl⟩)
      ·rcases List.mem_cons.1 hy with rfl|hy
       ·simp
       ·obtain⟨y1,y2⟩:=y
        exact List.mem_append_right _ (List.mem_cons_of_mem _ (List.of_mem_zip hy).1)
    rw[e2];have hzm:((i.1,v)::i.2.zip us).map (·.1)=i.1::i.2:=by rw[List.map_cons,List.map_fst_zip (by omega)]
    have hzs:((i.1,v)::i.2.zip us).map (·.2)=v::us:=by rw[List.map_cons,List.map_snd_zip (by omega)]
    refine ih _ (E.erase i) w' ?_ ?_ ?_ ?_ ?_ ?_
    ·rw[List.length_erase_of_mem hi,hn];rfl
    ·have h1:((S1++⟨dn,i::td,AT⟩::S2).flatMap (·.td)).Perm (i::(S1++⟨dn++(i.1,v)::i.2.zip us,td,AT⟩::S2).flatMap (·.td)):=by
      simp only[List.flatMap_append,List.flatMap_cons];exact List.perm_middle
     have h2:=(hp.trans h1).erase i;rw[List.erase_cons_head] at h2;exact h2
    ·unfold xw at *
     rw[←hL];simp only[oO,List.map_cons];rw[show i.1::(i.2.zip us).map (·.1)=i.1::i.2 by rw[←hzm];rfl];congr 2;simp[nums]
    ·intro s hs'
     rcases List.mem_append.1 hs' with h|h
     ·exact hg s (List.mem_append_left _ h)
     ·rcases List.mem_cons.1 h with rfl|h
      ·exact hnext v us yB
      ·exact hg s (by simp[h])
    ·have hsame:zy.all ⟨dn++(i.1,v)::i.2.zip us,td,AT⟩=zy.all ⟨dn,i::td,AT⟩:=by
      unfold zy.all nums;rw[oO,hzm,List.flatMap_cons,List.append_assoc]
     refine List.pairwise_append.2 ⟨hpw.1,List.pairwise_cons.2 ⟨fun y hy=>?_,hpc.2⟩,fun x hx y hy=>?_⟩
     ·rw[hsame];exact hpc.1 y hy
     ·rcases List.mem_cons.1 hy with rfl|hy
      ·rw[hsame];exact hpw.2.2 x hx _ (List.mem_cons_self)
      ·exact hpw.2.2 x hx y (by simp[hy])
    ·rw[Eo,qC,yh]
     show Sat W w' (sep (AT ((dn++(i.1,v)::i.2.zip us).map (·.2))) (I4 S2 (I4 S1 A)));rw[oO,hzs];exact hv2
theorem rH {a:Act} {w:World} {A:aC} {b:Bool} {l:List kL} {K:Act→World→Prop} (ts:List XU) (hS:b=true→∃t∈ts,∀us w X,Sat W w (sep (t.A us) X)→S w)
 (hap:AX ops (ts.map (fun t=>nums t.ids))=true) (hg:∀t∈ts,zO P ops W a t.A [] t.ids) (hw:Sat W w (ts.foldl (fun B t=>sep (t.A []) B) A)) (hfin:WH ops W a (mZ P ops Q S l K) ts [] A):
 mZ P ops Q S (.grp b (ts.flatMap (·.ids))::l) K a w:=by
 have aec:I4 (ts.map fun t=>(⟨[],t.ids,t.A⟩:zy)) A=ts.foldl (fun B t=>sep (t.A []) B) A:=by
  rw[I4,List.foldl_map];rfl
 have h:=OW (P:=P) (Q:=Q) (S:=S) (b:=b) ts hS hfin _ (ts.map fun t=>(⟨[],t.ids,t.A⟩:zy)) (ts.flatMap (·.ids)) w rfl ?_ ?_ ?_ (DU ts hap) (by rw[aec];exact hw)
 ·have e:(ts.map fun t=>(⟨[],t.ids,t.A⟩:zy)).flatMap (·.dn)=[]:=by
   induction ts with
   | nil=>rfl
   | cons t ts ih=>simp
  rw[e] at h;exact h
 ·rw[List.flatMap_map]
 ·unfold xw;simp
 ·intro s hs
  obtain⟨t,ht,rfl⟩:=List.mem_map.1 hs;exact hg t ht
end
end PA
namespace PA
open Go Go.RowKit
def UA (ops:Array Oper) (bf:Array Nat) (b:Bool) (E:List (Nat×List Nat)):Bool:=
 E.all (fun x=>x.2.all (fun j=>(bf.getD j 0).testBit x.1))&&E.all (fun x=>DC ops bf (x.2.map fun j=>(j,(.inr none:Kd)))) &&
 E.all (fun x=>E.all fun y=>x==y||(bf.getD x.1 0).testBit y.1||x.2.all fun u=>(Ag b y).all fun v=>fM ops bf (u,.inr none) v)
section
variable {P:Program} {ops:Array Oper} {Q:Exit→Act→World→Prop} {S:World→Prop}
structure Ri (ops:Array Oper) (bf:Array Nat) (b:Bool) (E:List (Nat×List Nat)):Prop where
 own:∀x∈E,∀j∈x.2,(bf.getD j 0).testBit x.1=true
 seq:∀x∈E,x.2.Pairwise fun u v=>fM ops bf (u,.inr none) (v,.inr none)=true
 other:∀x∈E,∀y∈E,x≠y→(bf.getD x.1 0).testBit y.1=false→∀u∈x.2,∀v∈Ag b y,fM ops bf (u,.inr none) v=true
theorem UC {bf:Array Nat} {b:Bool} {E:List (Nat×List Nat)} (h:UA ops bf b E=true):Ri ops bf b E:=by
 simp only[UA,Bool.and_eq_true,List.all_eq_true,Bool.or_eq_true,beq_iff_eq] at h;obtain⟨⟨h1,h2⟩,h3⟩:=h;refine⟨h1,fun x hx=>KT _ (h2 x hx),fun x hx y hy hne hnb u hu v hv=>?_⟩;rcases h3 x hx y hy with (e|e)|h
 ·exact absurd e hne
 ·rw[hnb] at e;cases e
 ·exact h u hu v hv
theorem Ri.erase {bf:Array Nat} {b:Bool} {E:List (Nat×List Nat)} (h:Ri ops bf b E) (x:Nat×List Nat):Ri ops bf b (E.erase x):=
 ⟨fun y hy=>h.own y (List.mem_of_mem_erase hy),fun y hy=>h.seq y (List.mem_of_mem_erase hy),fun y hy z hz=>h.other y (List.mem_of_mem_erase hy) z (List.mem_of_mem_erase hz)⟩
structure XO (ops:Array Oper) (bf:Array Nat) (listed:Array Bool) (l:List kL):Prop where
 size:listed.size=ops.size
 mem:∀i,i∈(eF l).map (·.1)↔i<ops.size∧listed.getD i true=false
 nodup:((eF l).map (·.1)).Nodup
 pair:l.Pairwise fun x y=>∀u∈x.fl,∀v∈y.fl,fM ops bf u v=true
 dep:(eF l).Pairwise fun x y=>lJ ops x.1 y.1=false
 self:∀x∈eF l,lJ ops x.1 x.1=false
 grp:∀b E,kL.grp b E∈l→Ri ops bf b E
 closed:∀d r,r<ops.size→listed.getD d false=true→(bf.getD d 0).testBit r=true→listed.getD r false=true
theorem FC (hsel:∀(j:Nat) (o:Oper) cs b,ops[j]?=some o→o.op≠.select cs b) (hQ:∀c a d v w,Q (.panic c) (a.put d v) w→Q (.panic c) a w)
 (hbf:nS ops (Region.before ops)=true) (hon:∀(j:Nat) (o:Oper),ops[j]?=some o→∀e∈o.after,Region.binds .any e=true→e.on<ops.size):
 ∀(n:Nat) (l:List kL) (listed:Array Bool),(eF l).length=n→XO ops (Region.before ops) listed l→∀(a:Act) (w:World),mZ P ops Q S l (Q .normal) a w→wpAny P .any ops Q n listed a w:=by
 obtain⟨bf,hbe⟩:=aB (Region.before ops);have TS:∀(listed:Array Bool) (i:Nat),listed.size=ops.size→i<ops.size→(listed.getD i false=true↔¬listed.getD i true=false):=fun listed i hs hi=>by
  simp[Array.getD,hs,hi]
 have nil:∀(listed:Array Bool) (l:List kL),eF l=[]→XO ops (Region.before ops) listed l→Region.ready .any ops listed=[]:=fun listed l hl hI=>by
  simp only[Region.ready,List.filter_eq_nil_iff,List.mem_range];intro i hi;have h':¬listed.getD i true=false:=fun hh=>by have:=(hI.mem i).2 ⟨hi,hh⟩;rw[hl] at this;simp at this
  have h'':listed.getD i true=true:=by simpa using h'
  simp[h'']
 intro n
 induction n with
 | zero=>
  intro l listed hn hI a w h;have hl:=List.eq_nil_of_length_eq_zero hn;exact⟨nil _ l hl hI,Gy l hl a w h⟩
 | succ n ih=>
  intro l listed hn hI a w h;refine⟨fun hr=>?_,fun j hj=>?_⟩
  ·exfalso
   cases hfl:eF l with
   | nil=>rw[hfl] at hn;simp at hn
   | cons x xs=>
    have hx:=(hI.mem x.1).1 (by rw[hfl];simp);have hmem:x.1∈Region.ready .any ops listed:=by
     simp only[Region.ready,List.mem_filter,List.mem_range];refine⟨hx.1,?_⟩;have:listed.getD x.1 true=false:=hx.2;have ho:ops[x.1]?=some ops[x.1]:=Array.getElem?_eq_getElem hx.1;simp only[this,Bool.not_false,Bool.true_and,ho,Option.map_some,Option.getD_some];rw[Array.all_eq_true];intro k hk;have hmem:=Array.getElem_mem hk
     by_cases hb:Region.binds .any (ops[x.1].after[k])=true
     ·have hlt:=hon x.1 _ ho _ hmem hb
      have NQ:lJ ops x.1 (ops[x.1].after[k]).on=true:=by
       simp only[lJ,ho,Array.any_eq_true];exact⟨k,hk,by simp[hb]⟩
      have hnot:(ops[x.1].after[k]).on∉(eF l).map (·.1):=by
       intro hm;rw[hfl] at hm;simp only[List.map_cons,List.mem_cons,List.mem_map] at hm;rcases hm with hm|⟨y,hy,hm⟩
       ·have:=hI.self x (by rw[hfl];simp)
        rw[hm] at NQ;rw[NQ] at this;cases this
       ·have hd:=hI.dep
        rw[hfl] at hd;have:=(List.pairwise_cons.1 hd).1 y hy;rw[hm,NQ] at this;cases this
      have h2:¬listed.getD (ops[x.1].after[k]).on true=false:=fun e=>hnot ((hI.mem _).2 ⟨hlt,e⟩)
      have:=(TS listed _ hI.size hlt).2 h2;simp[this]
     ·simp[hb]
    rw[hr] at hmem;cases hmem
  ·simp only[Region.ready,List.mem_filter,List.mem_range,Bool.and_eq_true,Bool.not_eq_true'] at hj
   obtain⟨hjs,hjl,hja⟩:=hj;have hjm:=(hI.mem j).2 ⟨hjs,hjl⟩;cases hoj:ops[j]? with
   | none=>simp[hoj] at hja
   | some oj=>
    simp only[hoj,Option.map_some,Option.getD_some] at hja;have JY:∀d,lJ ops j d=true→listed.getD d false=true:=fun d hd=>by
     simp only[lJ,hoj,Array.any_eq_true] at hd;obtain⟨k,hk,hd⟩:=hd;simp only[Bool.and_eq_true,beq_iff_eq] at hd;rw[Array.all_eq_true] at hja;have:=hja k hk;rw[hd.1] at this;simpa[hd.2] using this
    have hbl:∀r,r<ops.size→((Region.before ops).getD j 0).testBit r=true→listed.getD r false=true:=fun r hr hb=>by
     simp only[nS,List.all_eq_true,List.mem_range] at hbf;have:=hbf j hjs r hr;simp only[hb,Bool.not_true,Bool.false_or,Bool.or_eq_true,List.any_eq_true,List.mem_range,Bool.and_eq_true] at this;rcases this with h|⟨d,_,h1,h2⟩
     ·exact JY r h
     ·exact hI.closed d r hr (JY d h1) h2
    have hnotin:∀x∈eF l,((Region.before ops).getD j 0).testBit x.1=false:=fun x hx=>by
     have hxm:=(hI.mem x.1).1 (List.mem_map.2 ⟨x,hx,rfl⟩);cases hb:((Region.before ops).getD j 0).testBit x.1 with
     | false=>rfl
     | true=>exact absurd hxm.2 ((TS listed x.1 hI.size hxm.1).1 (hbl x.1 hxm.1 hb))
    have hclosed:∀d r,r<ops.size→(listed.setIfInBounds j true).getD d false=true→((Region.before ops).getD d 0).testBit r=true→(listed.setIfInBounds j true).getD r false=true:=by
     intro d r hr hd hb
     by_cases e:r=j
     ·subst e;simp[Array.getD,hI.size,hr]
     ·have hg:(listed.setIfInBounds j true).getD r false=listed.getD r false:=getD_set_ne _ _ _ _ _ e
      rw[hg]
      by_cases e2:d=j
      ·subst e2;exact hbl r hr hb
      ·have hg2:(listed.setIfInBounds j true).getD d false=listed.getD d false:=getD_set_ne _ _ _ _ _ e2
       rw[hg2] at hd;exact hI.closed d r hr hd hb
    have abG:(listed.setIfInBounds j true).getD j true=true:=by simp[Array.getD,hI.size,hjs]
    have YE:∀(F:List Nat),(∀i,i∈F↔i∈(eF l).map (·.1)∧i≠j)→∀i,i∈F↔i<ops.size∧(listed.setIfInBounds j true).getD i true=false:=fun F hF i=>by
     rw[hF,hI.mem]
     by_cases e:i=j
     ·subst e;simp[abG]
     ·have hg:(listed.setIfInBounds j true).getD i true=listed.getD i true:=getD_set_ne _ _ _ _ _ e
      rw[hg];simp[e]
    obtain⟨⟨j',kj⟩,hxf,hje⟩:=List.mem_map.1 hjm;obtain rfl:j'=j:=hje;obtain⟨it,hit,hin⟩:=List.mem_flatMap.1 hxf;obtain⟨l1,l2,rfl⟩:=List.append_of_mem hit;have hpw:=List.pairwise_append.1 hI.pair;have hfe:eF (l1++it::l2)=eF l1++(it.fl++eF l2):=by rw[jL,jM]
    have hok:∀x∈eF l1,fM ops (Region.before ops) x (j',kj)=true∧((Region.before ops).getD j' 0).testBit x.1=false:=fun x hx=>by
     obtain⟨y,hy,hxy⟩:=List.mem_flatMap.1 hx;exact⟨hpw.2.2 y hy it (by simp) x hxy (j',kj) hin,hnotin x (by rw[hfe];exact List.mem_append_left _ hx)⟩
    have hnd:=hI.nodup;rw[hfe] at hnd;rw[wX] at h;cases it with
    | one i k=>
     simp only[kL.fl,List.mem_singleton,Prod.mk.injEq] at hin;obtain⟨rfl,rfl⟩:=hin;refine wpOp_mono (fun a' w' ⟨h1,_,_⟩=>ih (l1++l2) (listed.setIfInBounds j' true) ?_ ?_ a' w' (by rw[wX];exact h1)) (P6 (kj:=kj) hoj hsel hQ (mZ P ops Q S (.one j' kj::l2) (Q .normal)) (mZ P ops Q S l2 (Q .normal)) ?_ l1 hok a w h)
     ·rintro a w ⟨o,ho,h⟩
      rcases kj with b|_|_|_
      case inr.none=>obtain⟨v,hy,h⟩:=h;exact (hy w).wpOp ho ⟨h,fun h=>(by cases h),fun _=>rfl⟩
      case inr.some.true=>obtain⟨hS,v,hy,h⟩:=h;exact (hy w hS).wpOp ho ⟨h,fun h=>(by cases h),fun _=>rfl⟩
      case inr.some.false=>obtain⟨v,hy,h⟩:=h;exact hy.wpOp ho ⟨h,fun h=>(by cases h),fun _=>rfl⟩
      case inl=>exact wpOp_mono (fun a' w' ⟨h1,h2⟩=>⟨h2,fun hb=>h1 (by cases hb;rfl),fun hb=>(by simp[Kd.eff] at hb)⟩) h
     ·rw[hfe] at hn;rw[jL];simp[kL.fl] at hn ⊢;omega
     ·have hpf:List.Sublist (l1++l2) (l1++kL.one j' kj::l2):=List.Sublist.append_left (List.sublist_cons_self _ _) _
      have hsf:List.Sublist (eF (l1++l2)) (eF (l1++kL.one j' kj::l2)):=by
       rw[hfe,jL];exact List.Sublist.append_left (List.sublist_append_right _ _) _
      refine⟨by simp[hI.size],YE _ fun i=>?_,?_,hI.pair.sublist hpf,hI.dep.sublist hsf,fun x hx=>hI.self x (hsf.subset hx),fun b E hm=>hI.grp b E (hpf.subset hm),hclosed⟩
      ·rw[hfe,jL]
       simp only[kL.fl,oO,List.map_cons,List.map_nil,List.mem_append,List.mem_cons,List.not_mem_nil,or_false];have hn2:=hI.nodup;rw[hfe] at hn2;simp only[kL.fl,oO,List.map_cons,List.map_nil,List.nodup_append,List.mem_append,List.mem_cons,List.not_mem_nil,or_false] at hn2;constructor
       ·rintro (hi|hi)
        ·exact⟨.inl hi,fun e=>hn2.2.2 i hi j' (.inl rfl) e⟩
        ·exact⟨.inr (.inr hi),fun e=>hn2.2.1.2.2 j' rfl i hi e.symm⟩
       ·rintro⟨hi|hi|hi,hne⟩
        ·exact .inl hi
        ·exact absurd hi hne
        ·exact .inr hi
      ·exact hI.nodup.sublist (hsf.map _)
    | grp b E=>
     obtain⟨x,WU,adS⟩:=List.mem_flatMap.1 (show (j',kj)∈E.flatMap (Ag b) from hin);have hG:=hI.grp b E (by simp);have hxm:(x.1,(.inl b:Kd))∈eF (l1++kL.grp b E::l2):=by
      rw[hfe];refine List.mem_append_right _ (List.mem_append_left _ ?_);exact List.mem_flatMap.2 ⟨x,WU,List.mem_cons_self⟩
     have hj':(j',kj)=(x.1,.inl b):=by
      rcases List.mem_cons.1 adS with e|hm
      ·exact e
      ·exfalso
       obtain⟨u,hu,e⟩:=List.mem_map.1 hm;have e1:u=j':=congrArg Prod.fst e;have h1:=hG.own x WU u hu;have h2:=hnotin _ hxm;rw[e1] at h1;rw[h1] at h2;cases h2
     obtain⟨rfl,rfl⟩:j'=x.1∧kj=.inl b:=Prod.mk.inj hj';obtain⟨E1,E2,ad2,hEe,hEr⟩:=List.exists_erase_eq WU;have hfl:eF (l1++kL.grp b E::l2)=eF l1++(E1.flatMap (Ag b)++((x.1,.inl b)::((x.2.map fun j=>(j,(.inr none:Kd)))++E2.flatMap (Ag b)))++eF l2):=by
      rw[hfe];show eF l1++(E.flatMap (Ag b)++eF l2)=_;rw[hEe,List.flatMap_append,List.flatMap_cons];simp[Ag]
     have hfn:eF (l1++(x.2.map (fun j=>kL.one j (.inr none))++kL.grp b (E.erase x)::l2))=eF l1++((x.2.map fun j=>(j,(.inr none:Kd)))++(E1.flatMap (Ag b)++E2.flatMap (Ag b))++eF l2):=by
      rw[jL,jL,jM];show eF l1++(_++((E.erase x).flatMap (Ag b)++eF l2))=_;rw[hEr,List.flatMap_append];have:eF (x.2.map fun j=>kL.one j (.inr none))=x.2.map fun j=>(j,(.inr none:Kd)):=by
       unfold eF;rw[List.flatMap_map]
       induction x.2 with
       | nil=>rfl
       | cons u us ih=>rw[List.flatMap_cons,ih];rfl
      rw[this];simp
     have hperm:(eF (l1++kL.grp b E::l2)).Perm ((x.1,.inl b)::eF (l1++(x.2.map (fun j=>kL.one j (.inr none))++kL.grp b (E.erase x)::l2))):=by
      rw[hfl,hfn];refine List.Perm.trans ?_ List.perm_middle;refine List.Perm.append_left _ ?_;refine List.Perm.append_right (eF l2) (show List.Perm _ ((x.1,(.inl b:Kd))::_) from List.Perm.trans List.perm_middle (List.Perm.cons _ ?_));rw[←List.append_assoc,←List.append_assoc];exact List.Perm.append_right _ List.perm_append_comm
     have hnd':=(hperm.map (fun y:Nat×Kd=>y.1)).nodup_iff.1 hI.nodup;rw[List.map_cons] at hnd';obtain⟨hxn,ad3⟩:=List.nodup_cons.1 hnd';have Zl:∀y∈E1,y∈E∧y≠x:=fun y hy=>⟨by rw[hEe];simp[hy],fun e=>ad2 (by rw[←e];exact hy)⟩
     have Zm:∀y∈E2,y∈E∧y≠x:=fun y hy=>by
      refine⟨by rw[hEe];simp[hy],fun e=>?_⟩;have hn0:=hI.nodup;rw[hfl] at hn0;simp only[oO,List.map_cons] at hn0;have h3:=(List.nodup_append.1 (List.nodup_append.1 (List.nodup_append.1 hn0).2.1).1).2.1;refine (List.nodup_cons.1 h3).1 (List.mem_append_right _ (List.mem_map.2 ⟨(x.1,.inl b),List.mem_flatMap.2 ⟨y,hy,by rw[e];exact List.mem_cons_self⟩,rfl⟩))
     have hfr:∀y∈E,((Region.before ops).getD x.1 0).testBit y.1=false:=fun y hy=>hnotin (y.1,.inl b) (by rw[hfe];refine List.mem_append_right _ (List.mem_append_left _ ?_);exact List.mem_flatMap.2 ⟨y,hy,List.mem_cons_self⟩)
     have PI:∀u∈x.2,∀v∈E1.flatMap (Ag b)++E2.flatMap (Ag b),fM ops (Region.before ops) (u,.inr none) v=true:=fun u hu v hv=>by
      rcases List.mem_append.1 hv with hv|hv
      ·obtain⟨y,hy,ZL⟩:=List.mem_flatMap.1 hv
       exact hG.other x WU y (Zl y hy).1 (fun e=>(Zl y hy).2 e.symm) (hfr y (Zl y hy).1) u hu v ZL
      ·obtain⟨y,hy,ZL⟩:=List.mem_flatMap.1 hv
       exact hG.other x WU y (Zm y hy).1 (fun e=>(Zm y hy).2 e.symm) (hfr y (Zm y hy).1) u hu v ZL
     have abC:∀{u v:Nat×Kd},fM ops (Region.before ops) u v=true→lJ ops u.1 v.1=false:=fun h=>by
      simp only[fM,Bool.and_eq_true,Bool.not_eq_true'] at h;exact h.1
     refine wpOp_mono (fun a' w' ⟨h1,_,_⟩=>ih (l1++(x.2.map (fun j=>kL.one j (.inr none))++kL.grp b (E.erase x)::l2)) (listed.setIfInBounds x.1 true) ?_ ?_ a' w' (by rw[wX];exact h1)) (P6 (kj:=.inl b) hoj hsel hQ (mZ P ops Q S (.grp b E::l2) (Q .normal)) (mZ P ops Q S (x.2.map (fun j=>kL.one j (.inr none))++kL.grp b (E.erase x)::l2) (Q .normal)) ?_ l1 hok a w h)
     ·intro a w h
      have wL:(E.all fun r=>!((Region.before ops).getD x.1 0).testBit r.1)=true:=by
       rw[List.all_eq_true];intro r hr;have h9:((Region.before ops).getD x.1 0).testBit r.1=false:=hnotin (r.1,.inl b) (by rw[hfe];refine List.mem_append_right _ (List.mem_append_left _ ?_);exact List.mem_flatMap.2 ⟨r,hr,List.mem_cons_self⟩);rw[h9];rfl
      have hlen:E.length=(E.erase x).length+1:=by
       have hp:0<E.length:=List.length_pos_of_mem WU;rw[List.length_erase_of_mem WU];omega
      simp only[mZ] at h;rw[hlen] at h;refine wpOp_mono (fun a' w' ⟨h1,h2⟩=>⟨YU (.grp b (E.erase x)::l2) (Q .normal) x.2 a' w' h2,fun hb=>h1 (by cases hb;rfl),fun hb=>(by simp[Kd.eff] at hb)⟩) (h x WU wL)
     ·have:=hperm.length_eq
      rw[List.length_cons] at this;omega
     ·have hc:=List.pairwise_cons.1 hpw.2.1
      have hl1:∀y∈l1,∀u∈y.fl,∀v,v∈(x.2.map fun j=>(j,(.inr none:Kd)))∨v∈E1.flatMap (Ag b)++E2.flatMap (Ag b)→fM ops (Region.before ops) u v=true:=fun y hy u hu v hv=>by
       refine hpw.2.2 y hy (.grp b E) (by simp) u hu v ?_;show v∈E.flatMap (Ag b);rw[hEe,List.flatMap_append,List.flatMap_cons];rcases hv with hv|hv
       ·exact List.mem_append_right _ (List.mem_append_left _ (List.mem_cons_of_mem _ hv))
       ·rcases List.mem_append.1 hv with hv|hv
        ·exact List.mem_append_left _ hv
        ·exact List.mem_append_right _ (List.mem_append_right _ hv)
      have hl2:∀y∈l2,∀v∈y.fl,∀u,u∈(x.2.map fun j=>(j,(.inr none:Kd)))∨u∈E1.flatMap (Ag b)++E2.flatMap (Ag b)→fM ops (Region.before ops) u v=true:=fun y hy v hv u hu=>by
       refine hc.1 y hy u ?_ v hv;show u∈E.flatMap (Ag b);rw[hEe,List.flatMap_append,List.flatMap_cons];rcases hu with hu|hu
       ·exact List.mem_append_right _ (List.mem_append_left _ (List.mem_cons_of_mem _ hu))
       ·rcases List.mem_append.1 hu with hu|hu
        ·exact List.mem_append_left _ hu
        ·exact List.mem_append_right _ (List.mem_append_right _ hu)
      have hgf:kL.fl (.grp b (E.erase x))=E1.flatMap (Ag b)++E2.flatMap (Ag b):=by
       show (E.erase x).flatMap (Ag b)=_;rw[hEr,List.flatMap_append]
      have hone:∀y∈x.2.map (fun j=>kL.one j (.inr none)),∀u∈y.fl,u∈(x.2.map fun j=>(j,(.inr none:Kd))):=fun y hy u hu=>by
       obtain⟨j,hj,rfl⟩:=List.mem_map.1 hy;rw[List.mem_singleton.1 hu];exact List.mem_map.2 ⟨j,hj,rfl⟩
      refine⟨by simp[hI.size],YE _ fun k=>?_,ad3,?_,?_,fun y hy=>hI.self y (hperm.symm.subset (List.mem_cons_of_mem _ hy)),?_,hclosed⟩
      ·have hmm:=(hperm.map (fun y:Nat×Kd=>y.1)).mem_iff (a:=k)
       rw[List.map_cons,List.mem_cons] at hmm;rw[hmm];constructor
       ·intro hk
        exact⟨.inr hk,fun e=>hxn (by rw[←e];exact hk)⟩
       ·rintro⟨rfl|hk,hne⟩
        ·exact absurd rfl hne
        ·exact hk
      ·refine List.pairwise_append.2 ⟨hpw.1,List.pairwise_append.2 ⟨?_,List.pairwise_cons.2 ⟨fun y hy u hu v hv=>hl2 y hy v hv u (.inr (by rw[←hgf];exact hu)),hc.2⟩,fun y hy z hz u hu v hv=>?_⟩,fun y hy z hz u hu v hv=>?_⟩
       ·rw[List.pairwise_map]
        refine (hG.seq x WU).imp fun h u hu v hv=>?_
        rw[List.mem_singleton.1 hu,List.mem_singleton.1 hv];exact h
       ·have h1:=hone y hy u hu
        rcases List.mem_cons.1 hz with rfl|hz
        ·obtain⟨j,hj,rfl⟩:=List.mem_map.1 h1
         exact PI j hj v (by rw[←hgf];exact hv)
        ·exact hl2 z hz v hv u (.inl h1)
       ·rcases List.mem_append.1 hz with hz|hz
        ·exact hl1 y hy u hu v (.inl (hone z hz v hv))
        ·rcases List.mem_cons.1 hz with rfl|hz
         ·exact hl1 y hy u hu v (.inr (by rw[←hgf];exact hv))
         ·exact hpw.2.2 y hy z (by simp[hz]) u hu v hv
      ·have hd:=hI.dep
       rw[hfl] at hd;rw[hfn];obtain⟨a1,a2,a3⟩:=List.pairwise_append.1 hd;obtain⟨b1,b2,b3⟩:=List.pairwise_append.1 a2;obtain⟨c1,c2,c3⟩:=List.pairwise_append.1 b1;obtain⟨d1,d2⟩:=List.pairwise_cons.1 c2;obtain⟨e1,e2,e3⟩:=List.pairwise_append.1 d2;refine List.pairwise_append.2 ⟨a1,List.pairwise_append.2 ⟨List.pairwise_append.2 ⟨e1,List.pairwise_append.2 ⟨c1,e2,fun y hy z hz=>c3 y hy z (List.mem_cons_of_mem _ (List.mem_append_right _ hz))⟩,fun y hy z hz=>?_⟩,b2,fun y hy z hz=>b3 y ?_ z hz⟩,fun y hy z hz=>a3 y hy z ?_⟩
       ·obtain⟨j,hj,rfl⟩:=List.mem_map.1 hy
        exact abC (PI j hj z hz)
       ·rcases List.mem_append.1 hy with hy|hy
        ·exact List.mem_append_right _ (List.mem_cons_of_mem _ (List.mem_append_left _ hy))
        ·rcases List.mem_append.1 hy with hy|hy
         ·exact List.mem_append_left _ hy
         ·exact List.mem_append_right _ (List.mem_cons_of_mem _ (List.mem_append_right _ hy))
       ·rcases List.mem_append.1 hz with hz|hz
        ·rcases List.mem_append.1 hz with hz|hz
         ·exact List.mem_append_left _ (List.mem_append_right _ (List.mem_cons_of_mem _ (List.mem_append_left _ hz)))
         ·rcases List.mem_append.1 hz with hz|hz
          ·exact List.mem_append_left _ (List.mem_append_left _ hz)
          ·exact List.mem_append_left _ (List.mem_append_right _ (List.mem_cons_of_mem _ (List.mem_append_right _ hz)))
        ·exact List.mem_append_right _ hz
      ·intro b' E' hm
       rcases List.mem_append.1 hm with hm|hm
       ·exact hI.grp b' E' (List.mem_append_left _ hm)
       ·rcases List.mem_append.1 hm with hm|hm
        ·obtain⟨j,_,e⟩:=List.mem_map.1 hm
         cases e
        ·rcases List.mem_cons.1 hm with e|hm
         ·cases e
          exact hG.erase x
         ·exact hI.grp b' E' (by simp[hm])
def yU (ops:Array Oper) (bf:Array Nat):List kL→Bool
 | []=>true
 | .one _ _::l=>yU ops bf l
 | .grp b E::l=>UA ops bf b E&&yU ops bf l
theorem uQ {bf:Array Nat}:∀(l:List kL),yU ops bf l=true→∀b E,kL.grp b E∈l→Ri ops bf b E
 | [],_,_,_,h=>by cases h
 | .one _ _::l,h,b,E,hm=>by
  rcases List.mem_cons.1 hm with e|hm
  ·cases e
  ·exact uQ l h b E hm
 | .grp b' E'::l,h,b,E,hm=>by
  simp only[yU,Bool.and_eq_true] at h;rcases List.mem_cons.1 hm with e|hm
  ·cases e
   exact UC h.1
  ·exact uQ l h.2 b E hm
def xO (ops:Array Oper) (l:List kL):Bool:=
 KY ops (Region.before ops) l&&TA ops (eF l)&&Dz ops&&nS ops (Region.before ops)&&(eF l).length==ops.size&&nodupB ((eF l).map (·.1))&&((eF l).map (·.1)).all (fun i=>decide (i<ops.size))&&(List.range ops.size).all (fun i=>((eF l).map (·.1)).contains i) &&
 ops.all (fun o=>o.after.all fun e=>!Region.binds .any e||decide (e.on<ops.size))&&yU ops (Region.before ops) l
theorem eY {id:Nat} {a:Act} {w:World} (hm:P.follows .mixedOrders=true) (S:World→Prop) (l:List kL) (hok:xO ops l=true)
 (h:mZ P ops (NoPanic Q) S l (Q .normal) a w.drew):(Code.region id ops true).wp P Q a w:=by
 simp only[xO,Bool.and_eq_true] at hok;obtain⟨⟨⟨⟨⟨⟨⟨⟨⟨h1,h0⟩,h2⟩,h3⟩,h4⟩,h7⟩,h8⟩,h5⟩,h6⟩,h9⟩:=hok;have hlen:(eF l).length=ops.size:=by simpa using h4
 have hall:∀i,i<ops.size→i∈(eF l).map (·.1):=fun i hi=>by
  simp only[List.all_eq_true,List.mem_range] at h5;simpa using h5 i hi
 have hback:∀i,i∈(eF l).map (·.1)→i<ops.size:=fun i hi=>by
  rw[List.all_eq_true] at h8;simpa using h8 i hi
 have hd:=Hq _ h0;refine wp_region_noPanic (wp_region_any hm ?_);refine FC (S:=S) ?_ ?_ h3 ?_ ops.size l _ hlen ?_ a w.drew h
 ·intro j o cs b ho hsel
  simp only[Dz,Array.all_eq_true] at h2;obtain⟨hj,rfl⟩:=Array.getElem?_eq_some_iff.1 ho;have:=h2 j hj;rw[hsel] at this;cases this
 ·intro c a d v w hh;exact hh
 ·intro j o ho e he hb
  obtain⟨hj,rfl⟩:=Array.getElem?_eq_some_iff.1 ho;rw[Array.all_eq_true] at h6;have:=h6 j hj;rw[Array.all_eq_true] at this;obtain⟨k,hk,rfl⟩:=Array.mem_iff_getElem.1 he;have:=this k hk;simpa[hb] using this
 ·refine⟨by simp,fun i=>⟨fun hi=>?_,fun hi=>hall i hi.1⟩,nP _ h7,DT l h1,hd.1,hd.2,uQ l h9,fun d r _ hd=>?_⟩
  ·have:=hback i hi
   exact⟨this,by simp[Array.getD,this]⟩
  ·exfalso
   simp only[Array.getD,Array.size_replicate] at hd;split at hd<;>simp at hd
theorem NI {W:World} {Pre Mid Post:aC} {v1 v2:Value} {EF:List Value} {a0:Act} {i j:Nat} {js:List Nat} {oi oj:Oper} {di dj:Option Tmp} (hdi:aS ops i=di) (hdj:aS ops j=dj) (hoi:ops[i]?=some oi) (hsi:∀cs b,oi.op≠.select cs b) (hoj:ops[j]?=some oj) (hsj:∀cs b,oj.op≠.select cs b)
 (hb:((Region.before ops).getD j 0).testBit i=true) (h1:iR P ops W oi a0 Pre (fun v=>sep (fact (v=v1)) Mid)) (h2:iR P ops W oj (a0.put di v1) Mid (fun v=>sep (fact (v=v2)) Post))
 (hw2:∀v,Region.wanted oj (yielded ops (a0.put di v).tmps)=true) (hpl:js.all (nX ops)=true) (hF:xY P ops ((a0.put di v1).put dj v2) js EF):
 zO P ops W a0 (LQ Pre Mid Post v1 v2 EF) [] [(i,[]),(j,js)]:=by
 subst hdj;exact QM hdi hoi hsi hoj hsj hb h1 h2 hw2 hpl hF
theorem FU {W:World} {Pre Mid Post:aC} {v1 u1 v2:Value} {a0:Act} {i k j:Nat} {oi oj:Oper} {di dk:Option Tmp} (hdi:aS ops i=di) (hdk:aS ops k=dk) (hoi:ops[i]?=some oi) (hsi:∀cs b,oi.op≠.select cs b) (hoj:ops[j]?=some oj) (hsj:∀cs b,oj.op≠.select cs b)
 (hb:((Region.before ops).getD j 0).testBit i=true) (h1:iR P ops W oi a0 Pre (fun v=>sep (fact (v=v1)) Mid)) (hpl:nX ops k=true) (hF:xY P ops (a0.put di v1) [k] [u1])
 (h2:iR P ops W oj ((a0.put di v1).put dk u1) Mid (fun v=>sep (fact (v=v2)) Post))
 (hw2:∀v u,Region.wanted oj (yielded ops ((a0.put di v).put dk u).tmps)=true):
 zO P ops W a0 (Vy Pre Mid Post v1 u1 v2) [] [(i,[k]),(j,[])]:=by
 subst hdk;exact TT hdi hoi hsi hoj hsj hb h1 hpl hF h2 hw2
theorem twoA_S {W:World} {Pre Mid Post:aC} {v1 v2:Value} {EF:List Value} (h1:∀w X,Sat W w (sep Pre X)→S w) (h2:∀w X,Sat W w (sep Mid X)→S w) (h3:∀w X,Sat W w (sep Post X)→S w):∀us w X,Sat W w (sep (LQ Pre Mid Post v1 v2 EF us) X)→S w
 | [],w,X,h=>h1 w X h
 | [_],w,X,h=>by
  rw[LQ,aj] at h;exact h2 w X (Sat.fact.1 h).2
 | _::_::_,w,X,h=>by
  rw[LQ,aj] at h;exact h3 w X (Sat.fact.1 h).2
theorem X9 {W:World} {Pre Mid Post:aC} {v1 u1 v2:Value} (h1:∀w X,Sat W w (sep Pre X)→S w) (h2:∀w X,Sat W w (sep Mid X)→S w) (h3:∀w X,Sat W w (sep Post X)→S w):∀us w X,Sat W w (sep (Vy Pre Mid Post v1 u1 v2 us) X)→S w
 | [],w,X,h=>h1 w X h
 | [_],w,X,h=>by
  rw[Vy,aj] at h;exact h2 w X (Sat.fact.1 h).2
 | [_,_],w,X,h=>by
  rw[Vy,aj] at h;exact h2 w X (Sat.fact.1 h).2
 | _::_::_::_,w,X,h=>by
  rw[Vy,aj] at h;exact h3 w X (Sat.fact.1 h).2
end
end PA
namespace PA
open Go Go.RowKit
section
variable {P:Program} {ops:Array Oper} {Q:Exit→Act→World→Prop} {S:World→Prop}
theorem Bj {b:Bool} {E:List (Nat×List Nat)} {l:List kL} {K:Act→World→Prop} {a:Act} {w:World} {n:Nat} (hn:E.length=n) (h:ou P ops Q S b n E (mZ P ops Q S l K) a w):mZ P ops Q S (.grp b E::l) K a w:=by
 subst hn;exact h
end
end PA
namespace PA
open Go Go.RowKit
section
variable {P:Program} {ops:Array Oper} {Q:Exit→Act→World→Prop} {S:World→Prop} {W:World}
def cZ (ops:Array Oper) (L:List Nat) (f:Nat→Option Value) (a:Act):Act:=L.foldl (fun a x=>match f x with|some v=>a.put (aS ops x) v|none=>a) a
theorem UK (f:Nat→Option Value) (a:Act):cZ ops [] f a=a:=rfl
theorem jl (x:Nat) (L:List Nat) (f:Nat→Option Value) (a:Act):cZ ops (x::L) f a=cZ ops L f (match f x with|some v=>a.put (aS ops x) v|none=>a):=rfl
def fG (f:Nat→Option Value) (x:Nat) (v:Value):Nat→Option Value:=fun y=>if y=x then some v else f y
theorem aK {f:Nat→Option Value} {x y:Nat} {v:Value} (h:y≠x):fG f x v y=f y:=by unfold fG;rw[if_neg h]
theorem dw {f:Nat→Option Value} {x:Nat} {v:Value}:fG f x v x=some v:=by unfold fG;rw[if_pos rfl]
def yS (ops:Array Oper) (x y:Nat):Prop:=∀d,aS ops x=some d→aS ops y≠some d
theorem DX {x:Nat} {v:Value} (f:Nat→Option Value):∀(L:List Nat),(∀y∈L,yS ops x y)→∀a:Act,cZ ops L f (a.put (aS ops x) v)=(cZ ops L f a).put (aS ops x) v
 | [],_,_=>rfl
 | y::L,h,a=>by
  rw[jl,jl];cases hy:f y with
  | none=>exact DX f L (fun z hz=>h z (List.mem_cons_of_mem _ hz)) a
  | some u=>
   show cZ ops L f ((a.put (aS ops x) v).put (aS ops y) u)=(cZ ops L f (a.put (aS ops y) u)).put (aS ops x) v;rw[Act.put_comm a v u (h y (List.mem_cons_self ..)),DX f L (fun z hz=>h z (List.mem_cons_of_mem _ hz))]
theorem DW {f g:Nat→Option Value}:∀(L:List Nat),(∀y∈L,f y=g y)→∀a:Act,cZ ops L f a=cZ ops L g a
 | [],_,_=>rfl
 | y::L,h,a=>by
  rw[jl,jl,h y (List.mem_cons_self ..)];exact DW L (fun z hz=>h z (List.mem_cons_of_mem _ hz)) _
theorem DY {x:Nat} {v:Value} {f:Nat→Option Value}:∀(L:List Nat),x∈L→L.Pairwise (yS ops)→L.Nodup→f x=none→∀a:Act,cZ ops L (fG f x v) a=(cZ ops L f a).put (aS ops x) v
 | [],h,_,_,_,_=>by cases h
 | y::L,h,hp,hn,hx,a=>by
  obtain⟨p1,p2⟩:=List.pairwise_cons.1 hp;obtain⟨n1,n2⟩:=List.nodup_cons.1 hn;rw[jl,jl]
  by_cases e:x=y
  ·subst e
   rw[dw,hx];show cZ ops L (fG f x v) (a.put (aS ops x) v)=(cZ ops L f a).put (aS ops x) v;rw[DW L (g:=f) (fun z hz=>aK (x:=x) (v:=v) (fun e=>n1 (by rw[←e];exact hz))),DX f L p1]
  ·rw[aK (Ne.symm e)]
   exact DY L ((List.mem_cons.1 h).resolve_left e) p2 n2 hx _
theorem Lh (a:Act) (d:Option Tmp) (v:Value):(a.put d v).tmps.size=a.tmps.size:=by
 cases d with
 | none=>rfl
 | some d=>simp[Act.put]
theorem ES {a b:Act} {t:Tmp} {v:Value} (h:a.tmps.size=b.tmps.size):(a.put (some t) v).eval (.tmp t)=(b.put (some t) v).eval (.tmp t):=by
 simp[Act.put,Act.eval,Array.getElem?_setIfInBounds,h]
theorem mO {f:Nat→Option Value} {t:Tmp} (keep:Nat→Bool):∀(L:List Nat) (a b:Act),a.tmps.size=b.tmps.size→a.eval (.tmp t)=b.eval (.tmp t)→(∀y∈L,keep y=false→aS ops y≠some t)→(cZ ops L f a).eval (.tmp t)=(cZ ops (L.filter keep) f b).eval (.tmp t)
 | [],_,_,_,h,_=>h
 | y::L,a,b,hs,h,hL=>by
  have hL':=fun z hz=>hL z (List.mem_cons_of_mem _ hz)
  rw[jl,List.filter_cons]
  by_cases hk:keep y=true
  ·rw[if_pos hk,jl]
   cases hf:f y with
   | none=>exact mO keep L _ _ hs h hL'
   | some v=>
    refine mO keep L _ _ (by simp only[Lh,hs]) ?_ hL'
    by_cases hd:aS ops y=some t
    ·simp only[hd];exact ES hs
    ·simp only
     rw[Act.eval_put fun d hd' e=>hd (by rw[hd'];cases e;rfl),Act.eval_put fun d hd' e=>hd (by rw[hd'];cases e;rfl)];exact h
  ·rw[if_neg hk]
   have hk':keep y=false:=by simpa using hk
   have hd:=hL y (List.mem_cons_self ..) hk';cases hf:f y with
   | none=>exact mO keep L _ _ hs h hL'
   | some v=>
    refine mO keep L _ _ (by simp only[Lh,hs]) ?_ hL';simp only;rw[Act.eval_put fun d hd' e=>hd (by rw[hd'];cases e;rfl)];exact h
def sD (P:Program) (o:Oper) (a:Act) (w:World) (Post:Value→World→Prop):Prop:=
 (∃v w',(execOp a.eval o).run P w=.ok (.value v) w'∧Post v w') ∨
 (∃f args w1,(execOp a.eval o).run P w=.ok (.enter f args) w1∧Calls P f args w1 fun e w'=>∃v,e=.returned v∧Post v w')
theorem sD.go {i:Nat} {o:Oper} {a:Act} {w:World} {Post:Value→World→Prop} (ho:ops[i]?=some o) (hg:o.guard=none) (h:sD P o a w Post) {K:Act→World→Prop}
 (hK:∀v w',Post v w'→K (a.put o.dst v) w'):Go.wpOp P ops Q i K a w:=by
 unfold Go.wpOp;have hw:Region.wanted o (yielded ops a.tmps)=true:=by unfold Region.wanted;rw[hg]
 simp only[ho,hw,if_true];refine .inl ?_;unfold Oper.wp;rcases h with ⟨v,w',h1,h2⟩|⟨f,args,w1,h1,h2⟩
 ·rw[h1];exact hK v w' h2
 ·rw[h1]
  refine Calls.mono h2 ?_;rintro e w' ⟨v,rfl,h3⟩;exact hK v w' h3
def dagB (ops:Array Oper) (E0:List Nat) (D:Nat→List Nat):Bool:=
 E0.all fun x=>(match ops[x]? with
  | none=>false
  | some o=>o.guard.isNone&&(match o.op with|.select ..=>false|_=>true)&&E0.all fun y=>(D x).contains y||(match aS ops y with|some t=>!(o.looksAt ops).contains t|none=>true)) &&
  (D x).all fun d=>E0.contains d&&((Region.before ops).getD x 0).testBit d
def FK (ops:Array Oper):List Nat→Bool
 | []=>true
 | x::L=>(L.all fun y=>match aS ops x with|some d=>aS ops y !=some d|none=>true)&&!L.contains x&&FK ops L
theorem Cb:∀(L:List Nat),FK ops L=true→L.Pairwise (yS ops)∧L.Nodup
 | [],_=>⟨.nil,.nil⟩
 | x::L,h=>by
  simp only[FK,Bool.and_eq_true,List.all_eq_true,Bool.not_eq_true'] at h;obtain⟨⟨h1,h2⟩,h3⟩:=h;obtain⟨i1,i2⟩:=Cb L h3;refine⟨List.pairwise_cons.2 ⟨fun y hy d hd=>?_,i1⟩,List.nodup_cons.2 ⟨fun hm=>?_,i2⟩⟩
  ·have:=h1 y hy
   rw[hd] at this;simpa using this
  ·simp[hm] at h2
theorem OV {a0:Act} {b:Bool} {K:Act→World→Prop} (E0:List Nat) (D:Nat→List Nat) (T:(Nat→Option Value)→aC)
 (hB:dagB ops E0 D=true) (hdst:FK ops E0=true) (hS:b=true→∀f w,Sat W w (T f)→S w)
 (hop:∀x∈E0,∀(f:Nat→Option Value) (w:World) (o:Oper),ops[x]?=some o→f x=none→(∀d∈D x,(f d).isSome=true)→(∀y∈E0,(f y).isSome=true→∀d∈D y,(f d).isSome=true)→Sat W w (T f) →
  sD P o (cZ ops (E0.filter fun y=>(D x).contains y) f a0) w (fun v w'=>Sat W w' (T (fG f x v))))
 (hfin:∀(f:Nat→Option Value) (w:World),(∀x∈E0,(f x).isSome=true)→Sat W w (T f)→K (cZ ops E0 f a0) w):
 ∀(n:Nat) (E:List Nat) (f:Nat→Option Value) (w:World),E.length=n→E.Nodup→(∀x,x∈E↔x∈E0∧f x=none)→(∀y∈E0,(f y).isSome=true→∀d∈D y,(f d).isSome=true)→Sat W w (T f) →
  ou P ops Q S b n (E.map fun x=>(x,[])) K (cZ ops E0 f a0) w:=by
 obtain⟨hpw,hnd⟩:=Cb E0 hdst;have hB':=List.all_eq_true.1 hB;intro n
 induction n with
 | zero=>
  intro E f w hl _ hE _ hT;have he:=List.eq_nil_of_length_eq_zero hl;subst he;refine hfin f w (fun x hx=>?_) hT;cases hf:f x with
  | some v=>rfl
  | none=>have:=(hE x).2 ⟨hx,hf⟩;cases this
 | succ n ih=>
  intro E f w hl hn hE hcl hT;rintro⟨x,js⟩ hxm wL;obtain⟨x',hx',e⟩:=List.mem_map.1 hxm;cases e;obtain⟨hx0,hfx⟩:=(hE x).1 hx';have hb:=hB' x hx0;simp only[Bool.and_eq_true,List.all_eq_true] at hb;obtain⟨hb1,hb2⟩:=hb;cases ho:ops[x]? with
  | none=>rw[ho] at hb1;cases hb1
  | some o=>
   rw[ho] at hb1;simp only[Bool.and_eq_true,List.all_eq_true,Bool.or_eq_true] at hb1;obtain⟨⟨hg,hs⟩,hlook⟩:=hb1;have hg':o.guard=none:=by simpa using hg
   have hs':∀cs b,o.op≠.select cs b:=fun cs b e=>by rw[e] at hs;cases hs
   have fE:∀d∈D x,(f d).isSome=true:=fun d hd=>by
    have h1:=hb2 d hd;simp only[List.contains_iff_mem] at h1;cases hf:f d with
    | some v=>rfl
    | none=>
     have hdE:=(hE d).2 ⟨h1.1,hf⟩;have:=List.all_eq_true.1 wL (d,[]) (List.mem_map.2 ⟨d,hdE,rfl⟩);simp only[h1.2] at this;cases this
   have hd1:=hop x hx0 f w o ho hfx fE hcl hT;have hex:execOp (cZ ops E0 f a0).eval o=execOp (cZ ops (E0.filter fun y=>(D x).contains y) f a0).eval o:=by
    refine execOp_congr o hs' fun z hz=>?_
    cases z with
    | tmp t=>
     refine mO _ E0 a0 a0 rfl rfl fun y hy hk hdt=>?_
     have:=hlook y hy;rw[hk,hdt] at this;simp only[Bool.false_eq_true,false_or,Bool.not_eq_true',List.contains_eq_mem,decide_eq_false_iff_not] at this;exact this (List.mem_append_left _ (List.mem_filterMap.2 ⟨.tmp t,by simpa using hz,rfl⟩))
    | _=>rfl
   have hd2:sD P o (cZ ops E0 f a0) w (fun v w'=>Sat W w' (T (fG f x v))):=by
    unfold sD at hd1 ⊢;rw[hex];exact hd1
   refine hd2.go ho hg' fun v w' hT'=>⟨fun hb=>hS hb _ w' hT',?_⟩
   show ou P ops Q S b n _ K _ w';have hdo:o.dst=aS ops x:=by unfold aS;rw[ho];rfl
   rw[hdo,←DY E0 hx0 hpw hnd hfx];have hel:((E.map fun x=>(x,([]:List Nat))).erase (x,[]))=(E.erase x).map fun x=>(x,([]:List Nat)):=by
    clear hl hn hE hxm wL hx'
    induction E with
    | nil=>rfl
    | cons y E ihE=>
     rw[List.map_cons,List.erase_cons,List.erase_cons]
     by_cases e:y=x
     ·subst e;simp
     ·have e1:(y==x)=false:=by simpa using e
      have e2:((y,([]:List Nat))==(x,[]))=false:=by simp[e]
      rw[e1,e2];simp only[Bool.false_eq_true,if_false,List.map_cons,ihE]
   rw[hel];refine ih (E.erase x) (fG f x v) w' (by rw[List.length_erase_of_mem hx',hl];rfl) (hn.erase x) (fun y=>?_) (fun y hy hys d hd=>?_) hT'
   ·rw[hn.mem_erase_iff,hE]
    by_cases e:y=x
    ·subst e;simp[dw]
    ·rw[aK e];simp[e]
   ·by_cases e:d=x
    ·subst e;rw[dw];rfl
    ·rw[aK e]
     by_cases e2:y=x
     ·subst e2;exact fE d hd
     ·rw[aK e2] at hys
      exact hcl y hy hys d hd
end
end PA
