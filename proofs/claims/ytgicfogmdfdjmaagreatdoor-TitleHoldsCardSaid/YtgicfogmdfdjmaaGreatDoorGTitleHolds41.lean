/- Part of a proof. -/
import Derived.Test.YtgicfogmdfdjmaaGreatDoorGTitleHolds32
namespace PA
open Go Go.RowKit
theorem jZ {r:Int} (h1:-9223372036854775808≤r) (h2:r≤9223372036854775807):(PA.encI r).length≤10:=jX h1 h2
theorem PL {l:List Int} (hn:l.length≤1048576) (hi:∀r∈l,-9223372036854775808≤r∧r≤9223372036854775807):(gZ l).length≤10+10*l.length:=by
 have:=Iu hn hi l.length
 rwa [Di] at this
theorem jP {α:Type} (e:α→List UInt8) {B:Nat}:∀{l:List α},(∀g∈l,(e g).length≤B)→(l.map e).flatten.length≤B*l.length
 | [],_=>by simp
 | g::l,h=>by
  rw[List.map_cons,List.flatten_cons,dI,List.length_cons,Nat.mul_add]
  have h1:=h g (List.mem_cons_self ..)
  have h2:=jP e (B:=B) (l:=l) fun a ha=>h a (List.mem_cons_of_mem _ ha)
  omega
theorem iv64 {x:Iv} (h:Gl x):∀r∈PA.dR x,-9223372036854775808≤r∧r≤9223372036854775807:=by
 obtain⟨h1,h2,h3,h4,h5⟩:=h
 have o1:=Ag x.lo
 have o2:=Ag x.ho
 have o3:=Ag x.li
 have o4:=Ag x.hi
 unfold Oh at o1 o2 o3 o4
 have hh:0≤x.hn∧x.hn≤8∧0≤x.hd∧x.hd≤1:=by
  rcases h5 with ⟨-,e1,e2,-⟩|⟨-,e1,e2,e3⟩
  ·rw[e1,e2];omega
  ·omega
 intro r hr
 simp only[dR,List.mem_cons,List.not_mem_nil,or_false] at hr
 rcases hr with rfl|rfl|rfl|rfl|rfl|rfl|rfl|rfl<;>omega
theorem tK {o n:Int} {i:List Iv} {k:List Fm} (ho:Oh o) (hn:Oh n) (hi:i.length≤1000000) (hk:k.length≤1000000):(dw (.mk o n i k)).length≤40+(iH i).length+(fC k).length:=by
 rw[dw]
 simp only[dI]
 have h1:=jZ ho.1 ho.2
 have h2:=jZ hn.1 hn.2
 have h3:=jZ (r:=(i.length:Int)) (by omega) (by omega)
 have h4:=jZ (r:=(k.length:Int)) (by omega) (by omega)
 omega
theorem jm {f:Fm} (h:oN f):f.n64∧(dw f).length≤140:=by
 obtain⟨n,h1,h2,rfl⟩:=h
 refine⟨by simp[Fm.n64,Fm.ED,Oh];omega,?_⟩
 have:=tK (o:=1) (n:=n) (i:=[]) (k:=[]) ⟨by omega,by omega⟩ ⟨by omega,by omega⟩ (by simp) (by simp)
 simp[iH,fC] at this
 omega
theorem tN {f:Fm} (h:Az f):f.n64∧(dw f).length≤140:=by
 obtain⟨n,x,h1,h2,hx,rfl⟩:=h
 have hi:=iv64 hx
 refine⟨?_,?_⟩
 ·rw[Fm.n64]
  exact⟨⟨by omega,by omega⟩,⟨by omega,by omega⟩,fun y hy=>by rw[List.mem_singleton.1 hy];exact hi,by simp[Fm.ED]⟩
 ·have:=tK (o:=2) (n:=n) (i:=[x]) (k:=[]) ⟨by omega,by omega⟩ ⟨by omega,by omega⟩ (by simp) (by simp)
  have e:=PL (l:=dR x) (by simp[dR]) hi
  rw[show (dR x).length=8 from rfl] at e
  simp[iH,fC] at this
  omega
theorem Ld {o:Int} {k:List Fm} (ho:0≤o∧o≤10) (hk:∀f∈k,f.n64∧(dw f).length≤200) (hl:k.length≤2):Fm.n64 (.mk o 0 [] k)∧(dw (.mk o 0 [] k)).length≤440:=by
 have h1:Fm.ED k:=by
  have key:∀l:List Fm,(∀f∈l,f.n64)→Fm.ED l:=by
   intro l
   induction l with
   | nil=>intro _;trivial
   | cons g l ih=>intro h;rw[Fm.ED];exact⟨h g (List.mem_cons_self ..),ih fun f hf=>h f (List.mem_cons_of_mem _ hf)⟩
  exact key k fun f hf=>(hk f hf).1
 have h2:(fC k).length≤200*k.length:=by
  have key:∀l:List Fm,(∀f∈l,(dw f).length≤200)→(fC l).length≤200*l.length:=by
   intro l
   induction l with
   | nil=>intro _;simp[fC]
   | cons g l ih=>
    intro h
    rw[fC,dI,List.length_cons]
    have:=h g (List.mem_cons_self ..)
    have:=ih fun f hf=>h f (List.mem_cons_of_mem _ hf)
    omega
  exact key k fun f hf=>(hk f hf).2
 refine⟨by rw[Fm.n64];exact⟨⟨by omega,by omega⟩,⟨by omega,by omega⟩,by simp,h1⟩,?_⟩
 have:=tK (o:=o) (n:=0) (i:=[]) (k:=k) ⟨by omega,by omega⟩ ⟨by omega,by omega⟩ (by simp) (by omega)
 simp[iH] at this
 omega
theorem yL {o:Int} {f:Fm} (ho:0≤o∧o≤10) (hf:f.n64∧(dw f).length≤140):Fm.n64 (.mk o 0 [] [f])∧(dw (.mk o 0 [] [f])).length≤200:=by
 refine⟨by rw[Fm.n64];exact⟨⟨by omega,by omega⟩,⟨by omega,by omega⟩,by simp,by rw[Fm.ED];exact⟨hf.1,trivial⟩⟩,?_⟩
 have:=tK (o:=o) (n:=0) (i:=[]) (k:=[f]) ⟨by omega,by omega⟩ ⟨by omega,by omega⟩ (by simp) (by simp)
 simp[iH,fC] at this
 omega
theorem kP {f:Fm} (h:dh f):f.n64∧(dw f).length≤440:=by
 have two:∀{o:Int} {f g:Fm},0≤o∧o≤10→f.n64∧(dw f).length≤140→g.n64∧(dw g).length≤200→Fm.n64 (.mk o 0 [] [f,g])∧(dw (.mk o 0 [] [f,g])).length≤440:=by
  intro o f g ho hf hg
  refine Ld ho (fun x hx=>?_) (by simp)
  simp only[List.mem_cons,List.not_mem_nil,or_false] at hx
  rcases hx with rfl|rfl
  ·exact⟨hf.1,by omega⟩
  ·exact hg
 cases h with
 | c h=>have:=jm h;exact⟨this.1,by omega⟩
 | v h=>have:=tN h;exact⟨this.1,by omega⟩
 | OE h g=>have:=tN g;exact two (by omega) (jm h) ⟨this.1,by omega⟩
 | Xg h g=>have:=tN g;exact two (by omega) (jm h) ⟨this.1,by omega⟩
 | ZO h g=>have:=jm g;exact two (by omega) (jm h) ⟨this.1,by omega⟩
 | ZP h g=>exact two (by omega) (jm h) (yL (by omega) (jm g))
 | part h=>have:=yL (o:=3) (by omega) (jm h);exact⟨this.1,by omega⟩
 | ZQ h g=>exact two (by omega) (jm h) (yL (by omega) (tN g))
theorem Oq {f:Fm} (h:dh f):YK f:=⟨(kP h).1,by have:=(kP h).2;omega⟩
theorem xg:Fm.n64 Fm.zero∧(dw Fm.zero).length≤440:=by
 unfold Fm.zero
 refine Ld (by omega) (fun f hf=>by cases hf) (by simp)
theorem FZ {l:List Cl} (h:oC l):∀c∈l,Oi c∧(wU c).length≤480:=by
 intro c hc
 obtain⟨i,hi,rfl⟩:=List.mem_iff_getElem.1 hc
 obtain⟨hF,hr⟩:=h.2.2 i hi
 have hl:=h.2.1
 have hrn:=(zy hr).1
 have Oj:∀r∈l[i].refs,-9223372036854775808≤r∧r≤9223372036854775807:=fun r hh=>by
  have:=FD (zy hr).2 r hh
  omega
 refine⟨⟨Oj,by omega,(kP hF).1,by have:=(kP hF).2;omega⟩,?_⟩
 unfold wU
 rw[dI]
 have e1:=PL (by omega) Oj
 have e2:=lY (kP hF).2 (by omega)
 omega
theorem Ot {l:List Cl} (h:oC l):(gJ l).length≤1500:=by
 unfold gJ qj
 rw[dI]
 have e1:=jZ (r:=(l.length:Int)) (by omega) (by have:=h.2.1;omega)
 have e2:=jP wU (B:=480) fun c hc=>(FZ h c hc).2
 have:=h.2.1
 have e3:480*l.length≤480*3:=Nat.mul_le_mul_left _ this
 omega
theorem PN:(gJ []).length≤1500:=by
 unfold gJ qj
 have:=jZ (r:=0) (by omega) (by omega)
 simp;omega
structure ShA (x:Pa):Prop where
 ns:∀r∈iE x,-1≤r∧r≤1000000
 td:∀f∈x.td,dh f
 tn:x.td.length≤2
 tc:x.tc=[]∨oC x.tc
 cl:x.cl=[]∨oC x.cl
 en:x.ea.length≤2
 ea:∀e∈x.ea,(0≤e.file∧e.file≤5000)∧0≤e.day∧e.day≤40000
 fx:x.fx=Fm.zero∨dh x.fx
theorem Le {N:Nat} {x:Pa} (hN:N≤100) (h:EK N x) (hn:0≤x.n∧x.n≤1000000):ShA x:=by
 obtain⟨y,d,n,hy,hd1,hd2,rfl⟩:=h
 have hn':0≤n∧n≤1000000:=hn
 rcases hy with ⟨o,p,q,td,tc,ea,rfl,ho,hp,hq,hT,hE⟩|hy
 ·refine⟨?_,hT.2.2.1,hT.2.1,.inr hT.2.2.2,.inl rfl,hE.1,fun e he=>?_,.inl rfl⟩
  ·have hqf:-1≤q∧q≤4095:=by
    rcases hq with rfl|⟨j,hj,rfl⟩<;>omega
   simp[iE,bK,Pa.zero];omega
  ·obtain⟨⟨j,hj,hf⟩,h1,h2⟩:=hE.2.1 e he
   omega
 ·cases hy with
  | plain hk hf=>obtain⟨j,hj,rfl⟩:=hf;refine⟨?_,by simp[bK,Pa.zero],by simp[bK,Pa.zero],.inl rfl,.inl rfl,by simp[bK,Pa.zero],by simp[bK,Pa.zero],.inl rfl⟩;rcases hk with rfl|rfl|rfl|rfl<;>(simp[iE,bK,Pa.zero];omega)
  | list hk hf hc=>obtain⟨j,hj,rfl⟩:=hf;refine⟨?_,by simp[bK,Pa.zero],by simp[bK,Pa.zero],.inl rfl,.inr hc,by simp[bK,Pa.zero],by simp[bK,Pa.zero],.inl rfl⟩;rcases hk with rfl|rfl<;>(simp[iE,bK,Pa.zero];omega)
  | pay hf hp hq hu hm1 hm2=>obtain⟨j,hj,rfl⟩:=hf;refine⟨?_,by simp[bK,Pa.zero],by simp[bK,Pa.zero],.inl rfl,.inl rfl,by simp[bK,Pa.zero],by simp[bK,Pa.zero],.inl rfl⟩;simp[iE,bK,Pa.zero];omega
  | small hp hu=>refine⟨?_,by simp[bK,Pa.zero],by simp[bK,Pa.zero],.inl rfl,.inl rfl,by simp[bK,Pa.zero],by simp[bK,Pa.zero],.inl rfl⟩;simp[iE,bK,Pa.zero];omega
  | order hk hf hu1 hu2 hu3=>obtain⟨j,hj,rfl⟩:=hf;refine⟨?_,by simp[bK,Pa.zero],by simp[bK,Pa.zero],.inl rfl,.inl rfl,by simp[bK,Pa.zero],by simp[bK,Pa.zero],.inl rfl⟩;rcases hk with rfl|rfl|rfl|rfl<;>(simp[iE,bK,Pa.zero];omega)
  | extend hf hu1 hu2 hm1 hm2=>obtain⟨j,hj,rfl⟩:=hf;refine⟨?_,by simp[bK,Pa.zero],by simp[bK,Pa.zero],.inl rfl,.inl rfl,by simp[bK,Pa.zero],by simp[bK,Pa.zero],.inl rfl⟩;simp[iE,bK,Pa.zero];omega
  | L9 hk hf hp1 hp2=>obtain⟨j,hj,rfl⟩:=hf;refine⟨?_,by simp[bK,Pa.zero],by simp[bK,Pa.zero],.inl rfl,.inl rfl,by simp[bK,Pa.zero],by simp[bK,Pa.zero],.inl rfl⟩;rcases hk with rfl|rfl<;>(simp[iE,bK,Pa.zero];omega)
  | @decide f q u cl hf hq hu=>
   obtain⟨j,hj,rfl⟩:=hf
   refine⟨?_,by simp[bK,Pa.zero],by simp[bK,Pa.zero],.inl rfl,?_,by simp[bK,Pa.zero],by simp[bK,Pa.zero],.inl rfl⟩
   ·have hu':0≤u∧u≤2:=by rcases hu with ⟨h|h,-⟩|⟨h,-⟩<;>(rw[h];decide)
    simp[iE,bK,Pa.zero];omega
   ·rcases hu with ⟨-,rfl⟩|⟨-,hc⟩
    ·exact .inl rfl
    ·exact .inr hc
  | transfer hf hp1 hp2 hq1 hq2 hs=>
   obtain⟨j,hj,rfl⟩:=hf
   refine⟨?_,by simp[bK,Pa.zero],by simp[bK,Pa.zero],.inl rfl,.inl rfl,by simp[bK,Pa.zero],by simp[bK,Pa.zero],.inl rfl⟩
   unfold Gm at hs
   simp[iE,bK,Pa.zero];omega
  | OG hf hp1 hp2 hq1 hq2 hu1 hu2=>obtain⟨j,hj,rfl⟩:=hf;refine⟨?_,by simp[bK,Pa.zero],by simp[bK,Pa.zero],.inl rfl,.inl rfl,by simp[bK,Pa.zero],by simp[bK,Pa.zero],.inl rfl⟩;simp[iE,bK,Pa.zero];omega
  | art hg=>refine⟨?_,by simp[bK,Pa.zero],by simp[bK,Pa.zero],.inl rfl,.inl rfl,by simp[bK,Pa.zero],by simp[bK,Pa.zero],.inr hg⟩;simp[iE,bK,Pa.zero];omega
  | closure ho hu1 hu2=>refine⟨?_,by simp[bK,Pa.zero],by simp[bK,Pa.zero],.inl rfl,.inl rfl,by simp[bK,Pa.zero],by simp[bK,Pa.zero],.inl rfl⟩;simp[iE,bK,Pa.zero];omega
  | rule ho hu1 hu2 hm1 hm2=>refine⟨?_,by simp[bK,Pa.zero],by simp[bK,Pa.zero],.inl rfl,.inl rfl,by simp[bK,Pa.zero],by simp[bK,Pa.zero],.inl rfl⟩;simp[iE,bK,Pa.zero];omega
theorem ShA.size {x:Pa} (h:ShA x):VD x:=by
 have hg:∀{f:Fm},dh f→f.size≤Go.Proofs.YtgicfogmdfdjmaaGreatDoor.pq:=fun hf=>by
  have:=(VY hf).sz
  unfold Go.Proofs.YtgicfogmdfdjmaaGreatDoor.pq;omega
 have hc:∀{l:List Cl},(l=[]∨oC l)→∀c∈l,c.body.size≤Go.Proofs.YtgicfogmdfdjmaaGreatDoor.pq:=fun hl c hc=>by
  rcases hl with rfl|hl
  ·cases hc
  ·obtain⟨i,hi,rfl⟩:=List.mem_iff_getElem.1 hc
   exact hg (hl.2.2 i hi).1
 refine⟨fun f hf=>hg (h.td f hf),hc h.tc,hc h.cl,?_⟩
 rcases h.fx with e|e
 ·rw[e];unfold Fm.zero Go.Proofs.YtgicfogmdfdjmaaGreatDoor.pq;simp[Fm.size,Fm.sizes]
 ·exact hg e
theorem ShA.enc {x:Pa} (h:ShA x):zx x:=by
 have hns:∀r∈iE x,-9223372036854775808≤r∧r≤9223372036854775807:=fun r hr=>by have:=h.ns r hr;omega
 have hcl:∀{l:List Cl},(l=[]∨oC l)→(∀c∈l,Oi c)∧(gJ l).length≤1500:=fun hl=>by
  rcases hl with rfl|hl
  ·exact⟨fun c hc=>(by cases hc),PN⟩
  ·exact⟨fun c hc=>(FZ hl c hc).1,Ot hl⟩
 have hfx:x.fx.n64∧(dw x.fx).length≤440:=by
  rcases h.fx with e|e
  ·rw[e];exact xg
  ·exact kP e
 have hea:∀e∈x.ea,(-9223372036854775808≤e.file∧e.file≤9223372036854775807)∧(-9223372036854775808≤e.day∧e.day≤9223372036854775807):=fun e he=>by have:=h.ea e he;omega
 have htd:(wV x.td).length≤450*x.td.length:=jP (fun f=>encR (lF f)) fun f hf=>lY (sG (kP (h.td f hf)).2) (by omega)
 have htn:450*x.td.length≤450*2:=Nat.mul_le_mul_left _ h.tn
 have e1:=jZ (r:=(x.td.length:Int)) (by omega) (by have:=h.tn;omega)
 have e2:=lY (nJ (hcl h.tc).2) (by omega)
 have htx:(qG x.td x.tc).length≤3000:=by
  unfold qG;rw[dI,dI];omega
 have hen:(sF x.ea).length≤20*x.ea.length:=jP FX fun e he=>by
  have:=hea e he
  unfold FX;rw[dI]
  have:=jZ this.1.1 this.1.2
  have:=jZ (hea e he).2.1 (hea e he).2.2
  omega
 have ajG:20*x.ea.length≤20*2:=Nat.mul_le_mul_left _ h.en
 have e3:=jZ (r:=(x.ea.length:Int)) (by omega) (by have:=h.en;omega)
 have hkd:(wW x).length≤3100:=by
  unfold wW
  split
  ·rw[dI,dI]
   have:=lY (yF htx) (by omega)
   omega
  ·split
   ·have:=lY (sG hfx.2) (by omega)
    omega
   ·simp
 have hac:(Dl x).length≤1510:=by
  unfold Dl
  split
  ·simp
  ·exact lY (nJ (hcl h.cl).2) (by omega)
 have hn1:=jP PA.encI (B:=10) (l:=iE x) fun r hr=>jZ (hns r hr).1 (hns r hr).2
 have hn2:(iE x).length=11:=rfl
 rw[hn2] at hn1
 refine⟨hns,fun f hf=>Oq (h.td f hf),(hcl h.tc).1,(hcl h.cl).1,hea,⟨hfx.1,by have:=hfx.2;omega⟩,by omega,by have:=(hcl h.tc).2;omega,by have:=(hcl h.cl).2;omega,?_⟩
 unfold VN
 rw[dI,dI]
 omega
end PA
