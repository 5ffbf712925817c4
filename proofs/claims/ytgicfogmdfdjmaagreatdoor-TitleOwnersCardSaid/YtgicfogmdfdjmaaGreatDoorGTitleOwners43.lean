/- Part of a proof. -/
import Derived.Test.YtgicfogmdfdjmaaGreatDoorGTitleOwners33
namespace PA
open Go Go.RowKit
theorem jM {r:Int} (h1:-9223372036854775808≤r) (h2:r≤9223372036854775807):(PA.encI r).length≤10:=jK h1 h2
theorem NH {l:List Int} (hn:l.length≤1048576) (hi:∀r∈l,-9223372036854775808≤r∧r≤9223372036854775807):(gV l).length≤10+10*l.length:=by
 have:=Gm hn hi l.length
 rwa [BD] at this
theorem jC {α:Type} (e:α→List UInt8) {B:Nat}:∀{l:List α},(∀g∈l,(e g).length≤B)→(l.map e).flatten.length≤B*l.length
 | [],_=>by simp
 | g::l,h=>by
  rw[List.map_cons,List.flatten_cons,List.length_append,List.length_cons,Nat.mul_add]
  have h1:=h g (List.mem_cons_self ..)
  have h2:=jC e (B:=B) (l:=l) fun a ha=>h a (List.mem_cons_of_mem _ ha)
  omega
theorem iv64 {x:Iv} (h:EK x):∀r∈PA.dL x,-9223372036854775808≤r∧r≤9223372036854775807:=by
 obtain⟨h1,h2,h3,h4,h5⟩:=h
 have o1:=zy x.lo
 have o2:=zy x.ho
 have o3:=zy x.li
 have o4:=zy x.hi
 unfold LK at o1 o2 o3 o4
 have hh:0≤x.hn∧x.hn≤8∧0≤x.hd∧x.hd≤1:=by
  rcases h5 with ⟨-,e1,e2,-⟩|⟨-,e1,e2,e3⟩
  ·rw[e1,e2];omega
  ·omega
 intro r hr
 simp only[dL,List.mem_cons,List.not_mem_nil,or_false] at hr
 rcases hr with rfl|rfl|rfl|rfl|rfl|rfl|rfl|rfl<;>omega
theorem rZ {o n:Int} {i:List Iv} {k:List Fm} (ho:LK o) (hn:LK n) (hi:i.length≤1000000) (hk:k.length≤1000000):(bZ (.mk o n i k)).length≤40+(iC i).length+(eU k).length:=by
 rw[bZ]
 simp only[List.length_append]
 have h1:=jM ho.1 ho.2
 have h2:=jM hn.1 hn.2
 have h3:=jM (r:=(i.length:Int)) (by omega) (by omega)
 have h4:=jM (r:=(k.length:Int)) (by omega) (by omega)
 omega
theorem iY {f:Fm} (h:nU f):f.n64∧(bZ f).length≤140:=by
 obtain⟨n,h1,h2,rfl⟩:=h
 refine⟨by simp[Fm.n64,Fm.Dw,LK];omega,?_⟩
 have:=rZ (o:=1) (n:=n) (i:=[]) (k:=[]) ⟨by omega,by omega⟩ ⟨by omega,by omega⟩ (by simp) (by simp)
 simp[iC,eU] at this
 omega
theorem su {f:Fm} (h:zH f):f.n64∧(bZ f).length≤140:=by
 obtain⟨n,x,h1,h2,hx,rfl⟩:=h
 have hi:=iv64 hx
 refine⟨?_,?_⟩
 ·rw[Fm.n64]
  exact⟨⟨by omega,by omega⟩,⟨by omega,by omega⟩,fun y hy=>by rw[List.mem_singleton.1 hy];exact hi,by simp[Fm.Dw]⟩
 ·have:=rZ (o:=2) (n:=n) (i:=[x]) (k:=[]) ⟨by omega,by omega⟩ ⟨by omega,by omega⟩ (by simp) (by simp)
  have e:=NH (l:=dL x) (by simp[dL]) hi
  rw[show (dL x).length=8 from rfl] at e
  simp[iC,eU] at this
  omega
theorem Jo {o:Int} {k:List Fm} (ho:0≤o∧o≤10) (hk:∀f∈k,f.n64∧(bZ f).length≤200) (hl:k.length≤2):Fm.n64 (.mk o 0 [] k)∧(bZ (.mk o 0 [] k)).length≤440:=by
 have h1:Fm.Dw k:=by
  have key:∀l:List Fm,(∀f∈l,f.n64)→Fm.Dw l:=by
   intro l
   induction l with
   | nil=>intro _;trivial
   | cons g l ih=>intro h;rw[Fm.Dw];exact⟨h g (List.mem_cons_self ..),ih fun f hf=>h f (List.mem_cons_of_mem _ hf)⟩
  exact key k fun f hf=>(hk f hf).1
 have h2:(eU k).length≤200*k.length:=by
  have key:∀l:List Fm,(∀f∈l,(bZ f).length≤200)→(eU l).length≤200*l.length:=by
   intro l
   induction l with
   | nil=>intro _;simp[eU]
   | cons g l ih=>
    intro h
    rw[eU,List.length_append,List.length_cons]
    have:=h g (List.mem_cons_self ..)
    have:=ih fun f hf=>h f (List.mem_cons_of_mem _ hf)
    omega
  exact key k fun f hf=>(hk f hf).2
 refine⟨by rw[Fm.n64];exact⟨⟨by omega,by omega⟩,⟨by omega,by omega⟩,by simp,h1⟩,?_⟩
 have:=rZ (o:=o) (n:=0) (i:=[]) (k:=k) ⟨by omega,by omega⟩ ⟨by omega,by omega⟩ (by simp) (by omega)
 simp[iC] at this
 omega
theorem xX {o:Int} {f:Fm} (ho:0≤o∧o≤10) (hf:f.n64∧(bZ f).length≤140):Fm.n64 (.mk o 0 [] [f])∧(bZ (.mk o 0 [] [f])).length≤200:=by
 refine⟨by rw[Fm.n64];exact⟨⟨by omega,by omega⟩,⟨by omega,by omega⟩,by simp,by rw[Fm.Dw];exact⟨hf.1,trivial⟩⟩,?_⟩
 have:=rZ (o:=o) (n:=0) (i:=[]) (k:=[f]) ⟨by omega,by omega⟩ ⟨by omega,by omega⟩ (by simp) (by simp)
 simp[iC,eU] at this
 omega
theorem kC {f:Fm} (h:bY f):f.n64∧(bZ f).length≤440:=by
 have two:∀{o:Int} {f g:Fm},0≤o∧o≤10→f.n64∧(bZ f).length≤140→g.n64∧(bZ g).length≤200→Fm.n64 (.mk o 0 [] [f,g])∧(bZ (.mk o 0 [] [f,g])).length≤440:=by
  intro o f g ho hf hg
  refine Jo ho (fun x hx=>?_) (by simp)
  simp only[List.mem_cons,List.not_mem_nil,or_false] at hx
  rcases hx with rfl|rfl
  ·exact⟨hf.1,by omega⟩
  ·exact hg
 cases h with
 | c h=>have:=iY h;exact⟨this.1,by omega⟩
 | v h=>have:=su h;exact⟨this.1,by omega⟩
 | MC h g=>have:=su g;exact two (by omega) (iY h) ⟨this.1,by omega⟩
 | UA h g=>have:=su g;exact two (by omega) (iY h) ⟨this.1,by omega⟩
 | Xc h g=>have:=iY g;exact two (by omega) (iY h) ⟨this.1,by omega⟩
 | Xd h g=>exact two (by omega) (iY h) (xX (by omega) (iY g))
 | part h=>have:=xX (o:=3) (by omega) (iY h);exact⟨this.1,by omega⟩
 | Xe h g=>exact two (by omega) (iY h) (xX (by omega) (su g))
theorem LX {f:Fm} (h:bY f):VO f:=⟨(kC h).1,by have:=(kC h).2;omega⟩
theorem wC:Fm.n64 Fm.zero∧(bZ Fm.zero).length≤440:=by
 unfold Fm.zero
 refine Jo (by omega) (fun f hf=>by cases hf) (by simp)
theorem ED {l:List Cl} (h:nJ l):∀c∈l,LM c∧(vY c).length≤480:=by
 intro c hc
 obtain⟨i,hi,rfl⟩:=List.mem_iff_getElem.1 hc
 obtain⟨hF,hr⟩:=h.2.2 i hi
 have hl:=h.2.1
 have hrn:=(yM hr).1
 have LP:∀r∈l[i].refs,-9223372036854775808≤r∧r≤9223372036854775807:=fun r hh=>by
  have:=Eh (yM hr).2 r hh
  omega
 refine⟨⟨LP,by omega,(kC hF).1,by have:=(kC hF).2;omega⟩,?_⟩
 unfold vY
 rw[List.length_append]
 have e1:=NH (by omega) LP
 have e2:=lH (kC hF).2 (by omega)
 omega
theorem LY {l:List Cl} (h:nJ l):(gB l).length≤1500:=by
 unfold gB oO
 rw[List.length_append]
 have e1:=jM (r:=(l.length:Int)) (by omega) (by have:=h.2.1;omega)
 have e2:=jC vY (B:=480) fun c hc=>(ED h c hc).2
 have:=h.2.1
 have e3:480*l.length≤480*3:=Nat.mul_le_mul_left _ this
 omega
theorem NI:(gB []).length≤1500:=by
 unfold gB oO
 have:=jM (r:=0) (by omega) (by omega)
 simp;omega
structure ShA (x:Pa):Prop where
 ns:∀r∈iw x,-1≤r∧r≤1000000
 td:∀f∈x.td,bY f
 tn:x.td.length≤2
 tc:x.tc=[]∨nJ x.tc
 cl:x.cl=[]∨nJ x.cl
 en:x.ea.length≤2
 ea:∀e∈x.ea,(0≤e.file∧e.file≤5000)∧0≤e.day∧e.day≤40000
 fx:x.fx=Fm.zero∨bY x.fx
theorem Jp {N:Nat} {x:Pa} (hN:N≤100) (h:DJ N x) (hn:0≤x.n∧x.n≤1000000):ShA x:=by
 obtain⟨y,d,n,hy,hd1,hd2,rfl⟩:=h
 have hn':0≤n∧n≤1000000:=hn
 rcases hy with ⟨o,p,q,td,tc,ea,rfl,ho,hp,hq,hT,hE⟩|hy
 ·refine⟨?_,hT.2.2.1,hT.2.1,.inr hT.2.2.2,.inl rfl,hE.1,fun e he=>?_,.inl rfl⟩
  ·have hqf:-1≤q∧q≤4095:=by
    rcases hq with rfl|⟨j,hj,rfl⟩<;>omega
   simp[iw,bG,Pa.zero];omega
  ·obtain⟨⟨j,hj,hf⟩,h1,h2⟩:=hE.2.1 e he
   omega
 ·cases hy with
  | plain hk hf=>obtain⟨j,hj,rfl⟩:=hf;refine⟨?_,by simp[bG,Pa.zero],by simp[bG,Pa.zero],.inl rfl,.inl rfl,by simp[bG,Pa.zero],by simp[bG,Pa.zero],.inl rfl⟩;rcases hk with rfl|rfl|rfl|rfl<;>(simp[iw,bG,Pa.zero];omega)
  | list hk hf hc=>obtain⟨j,hj,rfl⟩:=hf;refine⟨?_,by simp[bG,Pa.zero],by simp[bG,Pa.zero],.inl rfl,.inr hc,by simp[bG,Pa.zero],by simp[bG,Pa.zero],.inl rfl⟩;rcases hk with rfl|rfl<;>(simp[iw,bG,Pa.zero];omega)
  | pay hf hp hq hu hm1 hm2=>obtain⟨j,hj,rfl⟩:=hf;refine⟨?_,by simp[bG,Pa.zero],by simp[bG,Pa.zero],.inl rfl,.inl rfl,by simp[bG,Pa.zero],by simp[bG,Pa.zero],.inl rfl⟩;simp[iw,bG,Pa.zero];omega
  | small hp hu=>refine⟨?_,by simp[bG,Pa.zero],by simp[bG,Pa.zero],.inl rfl,.inl rfl,by simp[bG,Pa.zero],by simp[bG,Pa.zero],.inl rfl⟩;simp[iw,bG,Pa.zero];omega
  | order hk hf hu1 hu2 hu3=>obtain⟨j,hj,rfl⟩:=hf;refine⟨?_,by simp[bG,Pa.zero],by simp[bG,Pa.zero],.inl rfl,.inl rfl,by simp[bG,Pa.zero],by simp[bG,Pa.zero],.inl rfl⟩;rcases hk with rfl|rfl|rfl|rfl<;>(simp[iw,bG,Pa.zero];omega)
  | extend hf hu1 hu2 hm1 hm2=>obtain⟨j,hj,rfl⟩:=hf;refine⟨?_,by simp[bG,Pa.zero],by simp[bG,Pa.zero],.inl rfl,.inl rfl,by simp[bG,Pa.zero],by simp[bG,Pa.zero],.inl rfl⟩;simp[iw,bG,Pa.zero];omega
  | JD hk hf hp1 hp2=>obtain⟨j,hj,rfl⟩:=hf;refine⟨?_,by simp[bG,Pa.zero],by simp[bG,Pa.zero],.inl rfl,.inl rfl,by simp[bG,Pa.zero],by simp[bG,Pa.zero],.inl rfl⟩;rcases hk with rfl|rfl<;>(simp[iw,bG,Pa.zero];omega)
  | @decide f q u cl hf hq hu=>
   obtain⟨j,hj,rfl⟩:=hf
   refine⟨?_,by simp[bG,Pa.zero],by simp[bG,Pa.zero],.inl rfl,?_,by simp[bG,Pa.zero],by simp[bG,Pa.zero],.inl rfl⟩
   ·have hu':0≤u∧u≤2:=by rcases hu with ⟨h|h,-⟩|⟨h,-⟩<;>(rw[h];decide)
    simp[iw,bG,Pa.zero];omega
   ·rcases hu with ⟨-,rfl⟩|⟨-,hc⟩
    ·exact .inl rfl
    ·exact .inr hc
  | transfer hf hp1 hp2 hq1 hq2 hs=>
   obtain⟨j,hj,rfl⟩:=hf
   refine⟨?_,by simp[bG,Pa.zero],by simp[bG,Pa.zero],.inl rfl,.inl rfl,by simp[bG,Pa.zero],by simp[bG,Pa.zero],.inl rfl⟩
   unfold EL at hs
   simp[iw,bG,Pa.zero];omega
  | MF hf hp1 hp2 hq1 hq2 hu1 hu2=>obtain⟨j,hj,rfl⟩:=hf;refine⟨?_,by simp[bG,Pa.zero],by simp[bG,Pa.zero],.inl rfl,.inl rfl,by simp[bG,Pa.zero],by simp[bG,Pa.zero],.inl rfl⟩;simp[iw,bG,Pa.zero];omega
  | art hg=>refine⟨?_,by simp[bG,Pa.zero],by simp[bG,Pa.zero],.inl rfl,.inl rfl,by simp[bG,Pa.zero],by simp[bG,Pa.zero],.inr hg⟩;simp[iw,bG,Pa.zero];omega
  | closure ho hu1 hu2=>refine⟨?_,by simp[bG,Pa.zero],by simp[bG,Pa.zero],.inl rfl,.inl rfl,by simp[bG,Pa.zero],by simp[bG,Pa.zero],.inl rfl⟩;simp[iw,bG,Pa.zero];omega
  | rule ho hu1 hu2 hm1 hm2=>refine⟨?_,by simp[bG,Pa.zero],by simp[bG,Pa.zero],.inl rfl,.inl rfl,by simp[bG,Pa.zero],by simp[bG,Pa.zero],.inl rfl⟩;simp[iw,bG,Pa.zero];omega
theorem ShA.size {x:Pa} (h:ShA x):Sr x:=by
 have hg:∀{f:Fm},bY f→f.size≤Go.Proofs.YtgicfogmdfdjmaaGreatDoor.oz:=fun hf=>by
  have:=(S9 hf).sz
  unfold Go.Proofs.YtgicfogmdfdjmaaGreatDoor.oz;omega
 have hc:∀{l:List Cl},(l=[]∨nJ l)→∀c∈l,c.body.size≤Go.Proofs.YtgicfogmdfdjmaaGreatDoor.oz:=fun hl c hc=>by
  rcases hl with rfl|hl
  ·cases hc
  ·obtain⟨i,hi,rfl⟩:=List.mem_iff_getElem.1 hc
   exact hg (hl.2.2 i hi).1
 refine⟨fun f hf=>hg (h.td f hf),hc h.tc,hc h.cl,?_⟩
 rcases h.fx with e|e
 ·rw[e];unfold Fm.zero Go.Proofs.YtgicfogmdfdjmaaGreatDoor.oz;simp[Fm.size,Fm.sizes]
 ·exact hg e
theorem ShA.enc {x:Pa} (h:ShA x):yL x:=by
 have hns:∀r∈iw x,-9223372036854775808≤r∧r≤9223372036854775807:=fun r hr=>by have:=h.ns r hr;omega
 have hcl:∀{l:List Cl},(l=[]∨nJ l)→(∀c∈l,LM c)∧(gB l).length≤1500:=fun hl=>by
  rcases hl with rfl|hl
  ·exact⟨fun c hc=>(by cases hc),NI⟩
  ·exact⟨fun c hc=>(ED hl c hc).1,LY hl⟩
 have hfx:x.fx.n64∧(bZ x.fx).length≤440:=by
  rcases h.fx with e|e
  ·rw[e];exact wC
  ·exact kC e
 have hea:∀e∈x.ea,(-9223372036854775808≤e.file∧e.file≤9223372036854775807)∧(-9223372036854775808≤e.day∧e.day≤9223372036854775807):=fun e he=>by have:=h.ea e he;omega
 have htd:(vZ x.td).length≤450*x.td.length:=jC (fun f=>encR (kT f)) fun f hf=>lH (qX (kC (h.td f hf)).2) (by omega)
 have htn:450*x.td.length≤450*2:=Nat.mul_le_mul_left _ h.tn
 have e1:=jM (r:=(x.td.length:Int)) (by omega) (by have:=h.tn;omega)
 have e2:=lH (mg (hcl h.tc).2) (by omega)
 have htx:(pz x.td x.tc).length≤3000:=by
  unfold pz;rw[List.length_append,List.length_append];omega
 have hen:(qW x.ea).length≤20*x.ea.length:=jC Ez fun e he=>by
  have:=hea e he
  unfold Ez;rw[List.length_append]
  have:=jM this.1.1 this.1.2
  have:=jM (hea e he).2.1 (hea e he).2.2
  omega
 have ahi:20*x.ea.length≤20*2:=Nat.mul_le_mul_left _ h.en
 have e3:=jM (r:=(x.ea.length:Int)) (by omega) (by have:=h.en;omega)
 have hkd:(wo x).length≤3100:=by
  unfold wo
  split
  ·rw[List.length_append,List.length_append]
   have:=lH (xO htx) (by omega)
   omega
  ·split
   ·have:=lH (qX hfx.2) (by omega)
    omega
   ·simp
 have hac:(BH x).length≤1510:=by
  unfold BH
  split
  ·simp
  ·exact lH (mg (hcl h.cl).2) (by omega)
 have hn1:=jC PA.encI (B:=10) (l:=iw x) fun r hr=>jM (hns r hr).1 (hns r hr).2
 have hn2:(iw x).length=11:=rfl
 rw[hn2] at hn1
 refine⟨hns,fun f hf=>LX (h.td f hf),(hcl h.tc).1,(hcl h.cl).1,hea,⟨hfx.1,by have:=hfx.2;omega⟩,by omega,by have:=(hcl h.tc).2;omega,by have:=(hcl h.cl).2;omega,?_⟩
 unfold SI
 rw[List.length_append,List.length_append]
 omega
end PA
