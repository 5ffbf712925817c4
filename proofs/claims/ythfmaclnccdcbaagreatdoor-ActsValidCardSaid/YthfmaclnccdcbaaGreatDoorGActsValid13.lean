/- Part of a proof. -/
import Derived.Test.YthfmaclnccdcbaaGreatDoorGActsValid12
namespace PA
open Go Go.RowKit
def kG (b:Bool):Int:=if b=true then 1 else 0
def gW (x:Iv):List Int:=[x.ln,x.ld,x.hn,x.hd,kG x.lo,kG x.ho,kG x.li,kG x.hi]
def MQ (n:Int):Prop:=-9223372036854775808≤n∧n≤9223372036854775807
theorem zL (b:Bool):MQ (kG b):=by cases b<;>exact⟨by decide,by decide⟩
end PA
namespace Go.Proofs.YthfmaclnccdcbaaGreatDoor
open Go.RowKit PA
theorem Ir:(Tryz.prog.info? 3).map (fun i=>(i.zero,i.size,i.bytes))=some (some (.int .i64 0),1,8):=by kernel_rfl
def Wv (n:Nat) (p:Array (Nat×Value)):Sem Value:=Instr.buildSlice 22 n p
theorem rH (n:Nat) (p:Array (Nat×Value)):Instr.buildSlice 22 n p=Wv n p:=rfl
theorem bs_i8y (w:World) (a b c d e f g h:Int):(Wv 8 #[(0,.int .i64 a),(1,.int .i64 b),(2,.int .i64 c),(3,.int .i64 d),(4,.int .i64 e),(5,.int .i64 f),(6,.int .i64 g),(7,.int .i64 h)]).run Tryz.prog w=.ok (.slice (some ⟨w.heap.size,0,none⟩) 8 8) (w.alloc (.cells #[.int .i64 a,.int .i64 b,.int .i64 c,.int .i64 d,.int .i64 e,.int .i64 f,.int .i64 g,.int .i64 h] 3)):=by
 obtain⟨i,h1,h2,h3,h4⟩:=info_parts Ir
 exact run_buildSlice w 22 3 8 _ _ i _ Tryz.underlying22 h1 h2 (by rw[h3];omega) (by rw[h3];omega) (by rw[h3];kernel_rfl)
attribute [local go_sem ↓] rH
end Go.Proofs.YthfmaclnccdcbaaGreatDoor
namespace PA
open Go Go.RowKit
def dZ (l:List Iv):List UInt8:=(l.map fun x=>lN (gW x)).flatten
mutual
def fM:Fm→List UInt8
 | .mk o n i k=>PA.encI o++PA.encI n++PA.encI i.length++dZ i++PA.encI k.length++jV k
def jV:List Fm→List UInt8
 | []=>[]
 | f::l=>fM f++jV l
end
theorem Jd {l:List Iv} {j:Nat} {g:Iv} (h:l[j]?=some g):dZ (l.take (j+1))=dZ (l.take j)++lN (gW g):=by
 unfold dZ;rw[List.take_add_one,h];simp
theorem O1 (l:List Iv) (j:Nat):(dZ (l.take j)).length≤(dZ l).length:=by
 induction l generalizing j with
 | nil=>simp
 | cons g l ih=>
  cases j with
  | zero=>simp[dZ]
  | succ j=>
   have:=ih j
   unfold dZ at this ⊢
   rw[List.take_succ_cons,List.map_cons,List.map_cons,List.flatten_cons,List.flatten_cons,fA,fA];omega
mutual
def Fm.n64:Fm→Prop
 | .mk o n i k=>MQ o∧MQ n∧(∀x∈i,∀r∈PA.gW x,-9223372036854775808≤r∧r≤9223372036854775807)∧Fm.A8 k
def Fm.A8:List Fm→Prop
 | []=>True
 | f::l=>Fm.n64 f∧Fm.A8 l
end
theorem Fm.QW {l:List Fm} (h:Fm.A8 l) {f:Fm} (hf:f∈l):Fm.n64 f:=by
 induction l with
 | nil=>cases hf
 | cons g l ih=>
  rw[Fm.A8] at h
  rcases List.mem_cons.1 hf with rfl|hf
  ·exact h.1
  ·exact ih h.2 hf
end PA
namespace Go.Proofs.YthfmaclnccdcbaaGreatDoor
open Go.RowKit PA
theorem uvarint_pos (x:Nat):0<(Lib.uvarint x).length:=by
 rcases (show x<128∨128≤x by omega) with h|h
 ·rw[Lib.uvarint_small h];simp
 ·rw[Lib.uvarint_big h];simp
end Go.Proofs.YthfmaclnccdcbaaGreatDoor
namespace PA
open Go Go.RowKit
def jg (f:Fm):List UInt8:=if jO f=0 then fM f else []
theorem pX (I:Mem):gZ.rel I [.slice none 0 0] []:=
 wV.2 ⟨none,0,rfl,⟨Nat.le_refl _,Nat.zero_le _,fun _=>rfl⟩,.inl rfl⟩
end PA
namespace Go.Proofs.YthfmaclnccdcbaaGreatDoor
open Go.RowKit PA
theorem pW {W w:World} {A:aB} {I:Mem} {a:Option Addr} {l c:Nat} {gb:List UInt8} (h:Sat W w (sep (aY 5 1 a l c (gb.map bv)) (sep (kn I) A))) (hl:l=gb.length):∃J,Mem.le I J∧gZ.rel J [.slice a l c] gb∧Sat W w (sep (kn J) A):=by
 subst hl
 exact h.Gq.2.learn
end Go.Proofs.YthfmaclnccdcbaaGreatDoor
namespace PA
open Go Go.RowKit
def tu (c:Cl):List UInt8:=lN c.refs++encR (fM c.body)
def AQ (l:List Cl):List UInt8:=(l.map tu).flatten
def jm (l:List Cl):List UInt8:=PA.encI l.length++AQ l
def ji (l:List Cl):List UInt8:=if qF l=0 then jm l else []
def Ef (l:List Fm):List UInt8:=(l.map fun f=>encR (jg f)).flatten
def qx (td:List Fm) (tc:List Cl):List UInt8:=PA.encI td.length++Ef td++encR (ji tc)
def nO (td:List Fm) (tc:List Cl):List UInt8:=if FP td tc=0 then qx td tc else []
def rM (e:Ea):List UInt8:=PA.encI e.file++PA.encI e.day
def rJ (l:List Ea):List UInt8:=(l.map rM).flatten
def fU (x:Pa):List Int:=[x.k,x.d,x.n,x.f,x.o,x.p,x.q,x.u,x.m,x.sn,x.sd]
def iQ (x:Pa):List UInt8:=if x.k=0 then encR (nO x.td x.tc)++PA.encI x.ea.length++rJ x.ea else if x.k=19 then encR (jg x.fx) else []
def yC (x:Pa):List UInt8:=if x.cl=[] then [] else encR (ji x.cl)
def O5 (x:Pa):List UInt8:=((fU x).map PA.encI).flatten++iQ x++yC x
def nK (x:Pa):List UInt8:=if dB x=true then O5 x else []
structure LQ (c:Cl):Prop where
 r64:∀r∈c.refs,-9223372036854775808≤r∧r≤9223372036854775807
 rn:c.refs.length≤1048576
 b64:c.body.n64
 bl:(fM c.body).length≤16777216
structure QY (f:Fm):Prop where
 b64:f.n64
 bl:(fM f).length≤16777216
structure Eh (x:Pa):Prop where
 n64:∀r∈fU x,-9223372036854775808≤r∧r≤9223372036854775807
 td:∀f∈x.td,QY f
 tc:∀c∈x.tc,LQ c
 cl:∀c∈x.cl,LQ c
 ea:∀e∈x.ea,(-9223372036854775808≤e.file∧e.file≤9223372036854775807)∧(-9223372036854775808≤e.day∧e.day≤9223372036854775807)
 fx:QY x.fx
 lt:(qx x.td x.tc).length≤268435456
 ltc:(jm x.tc).length≤134217728
 lcl:(jm x.cl).length≤134217728
 lw:(O5 x).length≤1073741824
theorem xB {α:Type} (e:α→List UInt8) {l:List α} {j:Nat} {g:α} (h:l[j]?=some g):((l.take (j+1)).map e).flatten=((l.take j).map e).flatten++e g:=by
 rw[List.take_add_one,h];simp
theorem FY {α:Type} (e:α→List UInt8) (l:List α) (j:Nat):((l.take j).map e).flatten.length≤(l.map e).flatten.length:=by
 induction l generalizing j with
 | nil=>simp
 | cons g l ih=>
  cases j with
  | zero=>simp
  | succ j=>
   have:=ih j
   rw[List.take_succ_cons,List.map_cons,List.map_cons,List.flatten_cons,List.flatten_cons,fA,fA];omega
theorem iF {b:List UInt8} {N:Nat} (h:b.length≤N) (hN:N≤1152921504606846976):(encR b).length≤N+10:=by
 unfold encR;rw[fA];have:=Lib.uvarint_length64 (x:=b.length) (by omega);omega
theorem lW {f:Fm} {N:Nat} (h:(fM f).length≤N):(jg f).length≤N:=by
 unfold jg;split
 ·exact h
 ·exact Nat.zero_le _
theorem jW {l:List Cl} {N:Nat} (h:(jm l).length≤N):(ji l).length≤N:=by
 unfold ji;split
 ·exact h
 ·exact Nat.zero_le _
theorem oH {td:List Fm} {l:List Cl} {N:Nat} (h:(qx td l).length≤N):(nO td l).length≤N:=by
 unfold nO;split
 ·exact h
 ·exact Nat.zero_le _
end PA
namespace PA
open Go Go.RowKit
theorem iR {r:Int} (h1:-9223372036854775808≤r) (h2:r≤9223372036854775807):(PA.encI r).length≤10:=iE h1 h2
theorem F5 {l:List Int} (hn:l.length≤1048576) (hi:∀r∈l,-9223372036854775808≤r∧r≤9223372036854775807):(lN l).length≤10+10*l.length:=by
 have:=zH hn hi l.length
 rwa [wu] at this
theorem iD {α:Type} (e:α→List UInt8) {B:Nat}:∀{l:List α},(∀g∈l,(e g).length≤B)→(l.map e).flatten.length≤B*l.length
 | [],_=>by simp
 | g::l,h=>by
  rw[List.map_cons,List.flatten_cons,fA,List.length_cons,Nat.mul_add]
  have h1:=h g (List.mem_cons_self ..)
  have h2:=iD e (B:=B) (l:=l) fun a ha=>h a (List.mem_cons_of_mem _ ha)
  omega
theorem iv64 {x:Iv} (h:zO x):∀r∈PA.gW x,-9223372036854775808≤r∧r≤9223372036854775807:=by
 obtain⟨h1,h2,h3,h4,h5⟩:=h
 have o1:=zL x.lo
 have o2:=zL x.ho
 have o3:=zL x.li
 have o4:=zL x.hi
 unfold MQ at o1 o2 o3 o4
 have hh:0≤x.hn∧x.hn≤8∧0≤x.hd∧x.hd≤1:=by
  rcases h5 with ⟨-,e1,e2,-⟩|⟨-,e1,e2,e3⟩
  ·rw[e1,e2];omega
  ·omega
 intro r hr
 simp only[gW,List.mem_cons,List.not_mem_nil,or_false] at hr
 rcases hr with rfl|rfl|rfl|rfl|rfl|rfl|rfl|rfl<;>omega
theorem oI {o n:Int} {i:List Iv} {k:List Fm} (ho:MQ o) (hn:MQ n) (hi:i.length≤1000000) (hk:k.length≤1000000):(fM (.mk o n i k)).length≤40+(dZ i).length+(jV k).length:=by
 rw[fM]
 simp only[fA]
 have h1:=iR ho.1 ho.2
 have h2:=iR hn.1 hn.2
 have h3:=iR (r:=(i.length:Int)) (by omega) (by omega)
 have h4:=iR (r:=(k.length:Int)) (by omega) (by omega)
 omega
theorem jc {f:Fm} (h:mQ f):f.n64∧(fM f).length≤140:=by
 obtain⟨n,h1,h2,rfl⟩:=h
 refine⟨by simp[Fm.n64,Fm.A8,MQ];omega,?_⟩
 have:=oI (o:=1) (n:=n) (i:=[]) (k:=[]) ⟨by omega,by omega⟩ ⟨by omega,by omega⟩ (by simp) (by simp)
 simp[dZ,jV] at this
 omega
theorem sN {f:Fm} (h:yc f):f.n64∧(fM f).length≤140:=by
 obtain⟨n,x,h1,h2,hx,rfl⟩:=h
 have hi:=iv64 hx
 refine⟨?_,?_⟩
 ·rw[Fm.n64]
  exact⟨⟨by omega,by omega⟩,⟨by omega,by omega⟩,fun y hy=>by rw[List.mem_singleton.1 hy];exact hi,by simp[Fm.A8]⟩
 ·have:=oI (o:=2) (n:=n) (i:=[x]) (k:=[]) ⟨by omega,by omega⟩ ⟨by omega,by omega⟩ (by simp) (by simp)
  have e:=F5 (l:=gW x) (by simp[gW]) hi
  rw[show (gW x).length=8 from rfl] at e
  simp[dZ,jV] at this
  omega
theorem J8 {o:Int} {k:List Fm} (ho:0≤o∧o≤10) (hk:∀f∈k,f.n64∧(fM f).length≤200) (hl:k.length≤2):Fm.n64 (.mk o 0 [] k)∧(fM (.mk o 0 [] k)).length≤440:=by
 have h1:Fm.A8 k:=by
  have key:∀l:List Fm,(∀f∈l,f.n64)→Fm.A8 l:=by
   intro l
   induction l with
   | nil=>intro _;trivial
   | cons g l ih=>intro h;rw[Fm.A8];exact⟨h g (List.mem_cons_self ..),ih fun f hf=>h f (List.mem_cons_of_mem _ hf)⟩
  exact key k fun f hf=>(hk f hf).1
 have h2:(jV k).length≤200*k.length:=by
  have key:∀l:List Fm,(∀f∈l,(fM f).length≤200)→(jV l).length≤200*l.length:=by
   intro l
   induction l with
   | nil=>intro _;simp[jV]
   | cons g l ih=>
    intro h
    rw[jV,fA,List.length_cons]
    have:=h g (List.mem_cons_self ..)
    have:=ih fun f hf=>h f (List.mem_cons_of_mem _ hf)
    omega
  exact key k fun f hf=>(hk f hf).2
 refine⟨by rw[Fm.n64];exact⟨⟨by omega,by omega⟩,⟨by omega,by omega⟩,by simp,h1⟩,?_⟩
 have:=oI (o:=o) (n:=0) (i:=[]) (k:=k) ⟨by omega,by omega⟩ ⟨by omega,by omega⟩ (by simp) (by omega)
 simp[dZ] at this
 omega
theorem xW {o:Int} {f:Fm} (ho:0≤o∧o≤10) (hf:f.n64∧(fM f).length≤140):Fm.n64 (.mk o 0 [] [f])∧(fM (.mk o 0 [] [f])).length≤200:=by
 refine⟨by rw[Fm.n64];exact⟨⟨by omega,by omega⟩,⟨by omega,by omega⟩,by simp,by rw[Fm.A8];exact⟨hf.1,trivial⟩⟩,?_⟩
 have:=oI (o:=o) (n:=0) (i:=[]) (k:=[f]) ⟨by omega,by omega⟩ ⟨by omega,by omega⟩ (by simp) (by simp)
 simp[dZ,jV] at this
 omega
theorem jA {f:Fm} (h:bU f):f.n64∧(fM f).length≤440:=by
 have two:∀{o:Int} {f g:Fm},0≤o∧o≤10→f.n64∧(fM f).length≤140→g.n64∧(fM g).length≤200→Fm.n64 (.mk o 0 [] [f,g])∧(fM (.mk o 0 [] [f,g])).length≤440:=by
  intro o f g ho hf hg
  refine J8 ho (fun x hx=>?_) (by simp)
  simp only[List.mem_cons,List.not_mem_nil,or_false] at hx
  rcases hx with rfl|rfl
  ·exact⟨hf.1,by omega⟩
  ·exact hg
 cases h with
 | c h=>have:=jc h;exact⟨this.1,by omega⟩
 | v h=>have:=sN h;exact⟨this.1,by omega⟩
 | DR h g=>have:=sN g;exact two (by omega) (jc h) ⟨this.1,by omega⟩
 | Oo h g=>have:=sN g;exact two (by omega) (jc h) ⟨this.1,by omega⟩
 | P8 h g=>have:=jc g;exact two (by omega) (jc h) ⟨this.1,by omega⟩
 | P9 h g=>exact two (by omega) (jc h) (xW (by omega) (jc g))
 | part h=>have:=xW (o:=3) (by omega) (jc h);exact⟨this.1,by omega⟩
 | Qa h g=>exact two (by omega) (jc h) (xW (by omega) (sN g))
theorem MZ {f:Fm} (h:bU f):QY f:=⟨(jA h).1,by have:=(jA h).2;omega⟩
theorem SG:Fm.n64 Fm.zero∧(fM Fm.zero).length≤440:=by
 unfold Fm.zero
 refine J8 (by omega) (fun f hf=>by cases hf) (by simp)
theorem xC {l:List Cl} (h:jG l):∀c∈l,LQ c∧(tu c).length≤480:=by
 intro c hc
 obtain⟨i,hi,rfl⟩:=List.mem_iff_getElem.1 hc
 obtain⟨hF,hr⟩:=h.2.2 i hi
 have hl:=h.2.1
 have hrn:=(nG hr).1
 have O6:∀r∈l[i].refs,-9223372036854775808≤r∧r≤9223372036854775807:=fun r hh=>by
  have:=xq (nG hr).2 r hh
  omega
 refine⟨⟨O6,by omega,(jA hF).1,by have:=(jA hF).2;omega⟩,?_⟩
 unfold tu
 rw[fA]
 have e1:=F5 (by omega) O6
 have e2:=iF (jA hF).2 (by omega)
 omega
theorem Bc {l:List Cl} (h:jG l):(jm l).length≤1500:=by
 unfold jm AQ
 rw[fA]
 have e1:=iR (r:=(l.length:Int)) (by omega) (by have:=h.2.1;omega)
 have e2:=iD tu (B:=480) fun c hc=>(xC h c hc).2
 have:=h.2.1
 have e3:480*l.length≤480*3:=Nat.mul_le_mul_left _ this
 omega
theorem NP:(jm []).length≤1500:=by
 unfold jm AQ
 have:=iR (r:=0) (by omega) (by omega)
 simp;omega
structure ShA (x:Pa):Prop where
 ns:∀r∈fU x,-1≤r∧r≤1000000
 td:∀f∈x.td,bU f
 tn:x.td.length≤2
 tc:x.tc=[]∨jG x.tc
 cl:x.cl=[]∨jG x.cl
 en:x.ea.length≤2
 ea:∀e∈x.ea,(0≤e.file∧e.file≤5000)∧0≤e.day∧e.day≤40000
 fx:x.fx=Fm.zero∨bU x.fx
theorem Jh {N:Nat} {x:Pa} (hN:N≤100) (h:Ic N x) (hn:0≤x.n∧x.n≤1000000):ShA x:=by
 obtain⟨y,d,n,hy,hd1,hd2,rfl⟩:=h
 have hn':0≤n∧n≤1000000:=hn
 rcases hy with ⟨o,p,q,td,tc,ea,rfl,ho,hp,hq,hT,hE⟩|hy
 ·refine⟨?_,hT.2.2.1,hT.2.1,.inr hT.2.2.2,.inl rfl,hE.1,fun e he=>?_,.inl rfl⟩
  ·have TV:-1≤q∧q≤4095:=by
    rcases hq with rfl|⟨j,hj,rfl⟩<;>omega
   simp[fU,aW,Pa.zero];omega
  ·obtain⟨⟨j,hj,hf⟩,h1,h2⟩:=hE.2.1 e he
   omega
 ·cases hy with
  | plain hk hf=>obtain⟨j,hj,rfl⟩:=hf;refine⟨?_,by simp[aW,Pa.zero],by simp[aW,Pa.zero],.inl rfl,.inl rfl,by simp[aW,Pa.zero],by simp[aW,Pa.zero],.inl rfl⟩;rcases hk with rfl|rfl|rfl|rfl<;>(simp[fU,aW,Pa.zero];omega)
  | list hk hf hc=>obtain⟨j,hj,rfl⟩:=hf;refine⟨?_,by simp[aW,Pa.zero],by simp[aW,Pa.zero],.inl rfl,.inr hc,by simp[aW,Pa.zero],by simp[aW,Pa.zero],.inl rfl⟩;rcases hk with rfl|rfl<;>(simp[fU,aW,Pa.zero];omega)
  | pay hf hp hq hu hm1 hm2=>obtain⟨j,hj,rfl⟩:=hf;refine⟨?_,by simp[aW,Pa.zero],by simp[aW,Pa.zero],.inl rfl,.inl rfl,by simp[aW,Pa.zero],by simp[aW,Pa.zero],.inl rfl⟩;simp[fU,aW,Pa.zero];omega
  | small hp hu=>refine⟨?_,by simp[aW,Pa.zero],by simp[aW,Pa.zero],.inl rfl,.inl rfl,by simp[aW,Pa.zero],by simp[aW,Pa.zero],.inl rfl⟩;simp[fU,aW,Pa.zero];omega
  | order hk hf hu1 hu2 hu3=>obtain⟨j,hj,rfl⟩:=hf;refine⟨?_,by simp[aW,Pa.zero],by simp[aW,Pa.zero],.inl rfl,.inl rfl,by simp[aW,Pa.zero],by simp[aW,Pa.zero],.inl rfl⟩;rcases hk with rfl|rfl|rfl|rfl<;>(simp[fU,aW,Pa.zero];omega)
  | extend hf hu1 hu2 hm1 hm2=>obtain⟨j,hj,rfl⟩:=hf;refine⟨?_,by simp[aW,Pa.zero],by simp[aW,Pa.zero],.inl rfl,.inl rfl,by simp[aW,Pa.zero],by simp[aW,Pa.zero],.inl rfl⟩;simp[fU,aW,Pa.zero];omega
  | ET hk hf hp1 hp2=>obtain⟨j,hj,rfl⟩:=hf;refine⟨?_,by simp[aW,Pa.zero],by simp[aW,Pa.zero],.inl rfl,.inl rfl,by simp[aW,Pa.zero],by simp[aW,Pa.zero],.inl rfl⟩;rcases hk with rfl|rfl<;>(simp[fU,aW,Pa.zero];omega)
  | @decide f q u cl hf hq hu=>
   obtain⟨j,hj,rfl⟩:=hf
   refine⟨?_,by simp[aW,Pa.zero],by simp[aW,Pa.zero],.inl rfl,?_,by simp[aW,Pa.zero],by simp[aW,Pa.zero],.inl rfl⟩
   ·have hu':0≤u∧u≤2:=by rcases hu with ⟨h|h,-⟩|⟨h,-⟩<;>(rw[h];decide)
    simp[fU,aW,Pa.zero];omega
   ·rcases hu with ⟨-,rfl⟩|⟨-,hc⟩
    ·exact .inl rfl
    ·exact .inr hc
  | transfer hf hp1 hp2 hq1 hq2 hs=>
   obtain⟨j,hj,rfl⟩:=hf
   refine⟨?_,by simp[aW,Pa.zero],by simp[aW,Pa.zero],.inl rfl,.inl rfl,by simp[aW,Pa.zero],by simp[aW,Pa.zero],.inl rfl⟩
   unfold KD at hs
   simp[fU,aW,Pa.zero];omega
  | EU hf hp1 hp2 hq1 hq2 hu1 hu2=>obtain⟨j,hj,rfl⟩:=hf;refine⟨?_,by simp[aW,Pa.zero],by simp[aW,Pa.zero],.inl rfl,.inl rfl,by simp[aW,Pa.zero],by simp[aW,Pa.zero],.inl rfl⟩;simp[fU,aW,Pa.zero];omega
  | art hg=>refine⟨?_,by simp[aW,Pa.zero],by simp[aW,Pa.zero],.inl rfl,.inl rfl,by simp[aW,Pa.zero],by simp[aW,Pa.zero],.inr hg⟩;simp[fU,aW,Pa.zero];omega
  | closure ho hu1 hu2=>refine⟨?_,by simp[aW,Pa.zero],by simp[aW,Pa.zero],.inl rfl,.inl rfl,by simp[aW,Pa.zero],by simp[aW,Pa.zero],.inl rfl⟩;simp[fU,aW,Pa.zero];omega
  | rule ho hu1 hu2 hm1 hm2=>refine⟨?_,by simp[aW,Pa.zero],by simp[aW,Pa.zero],.inl rfl,.inl rfl,by simp[aW,Pa.zero],by simp[aW,Pa.zero],.inl rfl⟩;simp[fU,aW,Pa.zero];omega
theorem ShA.size {x:Pa} (h:ShA x):SzA x:=by
 have hg:∀{f:Fm},bU f→f.size≤Go.Proofs.YthfmaclnccdcbaaGreatDoor.mW:=fun hf=>by
  have:=(Ba hf).sz
  unfold Go.Proofs.YthfmaclnccdcbaaGreatDoor.mW;omega
 have hc:∀{l:List Cl},(l=[]∨jG l)→∀c∈l,c.body.size≤Go.Proofs.YthfmaclnccdcbaaGreatDoor.mW:=fun hl c hc=>by
  rcases hl with rfl|hl
  ·cases hc
  ·obtain⟨i,hi,rfl⟩:=List.mem_iff_getElem.1 hc
   exact hg (hl.2.2 i hi).1
 refine⟨fun f hf=>hg (h.td f hf),hc h.tc,hc h.cl,?_⟩
 rcases h.fx with e|e
 ·rw[e];unfold Fm.zero Go.Proofs.YthfmaclnccdcbaaGreatDoor.mW;simp[Fm.size,Fm.sizes]
 ·exact hg e
theorem ShA.enc {x:Pa} (h:ShA x):Eh x:=by
 have hns:∀r∈fU x,-9223372036854775808≤r∧r≤9223372036854775807:=fun r hr=>by have:=h.ns r hr;omega
 have hcl:∀{l:List Cl},(l=[]∨jG l)→(∀c∈l,LQ c)∧(jm l).length≤1500:=fun hl=>by
  rcases hl with rfl|hl
  ·exact⟨fun c hc=>(by cases hc),NP⟩
  ·exact⟨fun c hc=>(xC hl c hc).1,Bc hl⟩
 have hfx:x.fx.n64∧(fM x.fx).length≤440:=by
  rcases h.fx with e|e
  ·rw[e];exact SG
  ·exact jA e
 have hea:∀e∈x.ea,(-9223372036854775808≤e.file∧e.file≤9223372036854775807)∧(-9223372036854775808≤e.day∧e.day≤9223372036854775807):=fun e he=>by have:=h.ea e he;omega
 have htd:(Ef x.td).length≤450*x.td.length:=iD (fun f=>encR (jg f)) fun f hf=>iF (lW (jA (h.td f hf)).2) (by omega)
 have htn:450*x.td.length≤450*2:=Nat.mul_le_mul_left _ h.tn
 have e1:=iR (r:=(x.td.length:Int)) (by omega) (by have:=h.tn;omega)
 have e2:=iF (jW (hcl h.tc).2) (by omega)
 have htx:(qx x.td x.tc).length≤3000:=by
  unfold qx;rw[fA,fA];omega
 have hen:(rJ x.ea).length≤20*x.ea.length:=iD rM fun e he=>by
  have:=hea e he
  unfold rM;rw[fA]
  have:=iR this.1.1 this.1.2
  have:=iR (hea e he).2.1 (hea e he).2.2
  omega
 have abp:20*x.ea.length≤20*2:=Nat.mul_le_mul_left _ h.en
 have e3:=iR (r:=(x.ea.length:Int)) (by omega) (by have:=h.en;omega)
 have hkd:(iQ x).length≤3100:=by
  unfold iQ
  split
  ·rw[fA,fA]
   have:=iF (oH htx) (by omega)
   omega
  ·split
   ·have:=iF (lW hfx.2) (by omega)
    omega
   ·simp
 have hac:(yC x).length≤1510:=by
  unfold yC
  split
  ·simp
  ·exact iF (jW (hcl h.cl).2) (by omega)
 have hn1:=iD PA.encI (B:=10) (l:=fU x) fun r hr=>iR (hns r hr).1 (hns r hr).2
 have hn2:(fU x).length=11:=rfl
 rw[hn2] at hn1
 refine⟨hns,fun f hf=>MZ (h.td f hf),(hcl h.tc).1,(hcl h.cl).1,hea,⟨hfx.1,by have:=hfx.2;omega⟩,by omega,by have:=(hcl h.tc).2;omega,by have:=(hcl h.cl).2;omega,?_⟩
 unfold O5
 rw[fA,fA]
 omega
end PA
namespace PA
open Go Go.RowKit
theorem nZ {I:Mem} {a:Option Addr} {n c:Nat} {l:List Int} (h:(oU.slice 1).rel I [.slice a n c] l) {i:Nat} {x:Int} (hx:l[i]?=some x):
 ∃b o,a=some ⟨b,o,none⟩∧∀w',Ext I w'→w'.cell? ⟨b,o+i,none⟩=some (.int .i64 x):=by
 obtain⟨b,o,cs,rfl,hr,-,hc⟩:=kH h hx (by omega)
 have e:cs=[.int .i64 x]:=hr
 subst e
 exact⟨b,o,rfl,fun w' he=>by have:=hc w' he 0 _ rfl;rwa [Nat.mul_one] at this⟩
theorem vO {I:Mem} {a:Option Addr} {n c:Nat} {l:List Cl} (h:(kV.slice 5).rel I [.slice a n c] l) {i:Nat} {x:Cl} (hx:l[i]?=some x):
 ∃b o ra rc p q x1 n1 c1 x2 n2 c2,a=some ⟨b,o,none⟩∧(oU.slice 1).rel I [.slice ra x.refs.length rc] x.refs∧rF.rel I [.int .i64 p,.int .i64 q,.slice x1 n1 c1,.slice x2 n2 c2] x.body ∧
  ∀w',Ext I w'→w'.cell? ⟨b,o+i*5,none⟩=some (.slice ra x.refs.length rc)∧w'.cell? ⟨b,o+i*5+1,none⟩=some (.int .i64 p)∧w'.cell? ⟨b,o+i*5+2,none⟩=some (.int .i64 q)∧w'.cell? ⟨b,o+i*5+3,none⟩=some (.slice x1 n1 c1)∧w'.cell? ⟨b,o+i*5+4,none⟩=some (.slice x2 n2 c2):=by
 obtain⟨b,o,cs,rfl,hr,-,hc⟩:=kH h hx (by omega)
 obtain⟨ra,rc,bs,rfl,h1,h2⟩:=hr
 obtain⟨refs,⟨p,q,ins,kids⟩⟩:=x
 obtain⟨x1,c1,x2,c2,rfl,h3,h4⟩:=dL.1 h2
 exact⟨b,o,ra,rc,p,q,x1,_,c1,x2,_,c2,rfl,h1,dL.2 ⟨x1,c1,x2,c2,rfl,h3,h4⟩,fun w' he=>⟨hc w' he 0 _ rfl,hc w' he 1 _ rfl,hc w' he 2 _ rfl,hc w' he 3 _ rfl,hc w' he 4 _ rfl⟩⟩
theorem Ny {l:List Int} {i:Nat} {r:Int} (h:l[0]?=some r):mV l i 0=(decide (0≤r)&&decide (r<(i:Int))):=by
 unfold mV;rw[h];simp
theorem Fj {l:List Int} {i k:Nat} {r q:Int} (h:l[k+1]?=some r) (h':l[k]?=some q):mV l i (k+1)=(decide (0≤r)&&(decide (r<(i:Int))&&decide (q<r))):=by
 unfold mV;rw[h];simp only;rw[h']
theorem EG {l:List Int} {i k:Nat} {r:Int} (h:l[k]?=some r) (hr:r<0∨(i:Int)≤r):mV l i k=false:=by
 unfold mV;rw[h]
 simp only
 rcases hr with hr|hr
 ·rw[decide_eq_false (show ¬0≤r by omega)];rfl
 ·rw[decide_eq_false (show ¬r<(i:Int) by omega)];simp
theorem D6 {l:List Cl} {j:Nat} {c:Cl} (h:l[j]?=some c):pI j (l.drop j)=if 8<c.refs.length then 4 else if jr c.refs j=false then 1 else if jO c.body≠0 then jO c.body else pI (j+1) (l.drop (j+1)):=by
 obtain⟨hj,rfl⟩:=List.getElem?_eq_some_iff.1 h
 rw[List.drop_eq_getElem_cons hj,pI]
end PA
namespace Go.Proofs.YthfmaclnccdcbaaGreatDoor
open Go.RowKit PA
set_option maxRecDepth 100000 in
set_option maxHeartbeats 4000000 in
theorem Gv {W w:World} {A:aB} {I:Mem} (a:Option Addr) (c:Nat) (l:List Int) (i:Nat) (hv:(oU.slice 1).rel I [.slice a l.length c] l) (h:Sat W w (sep (kn I) A)):
 Calls Tryz.prog 179 #[.slice a l.length c,.int .i64 (i:Nat)] w fun e w'=>e=.returned (.bool (jr l i))∧Sat W w' (sep (kn I) A):=by
 obtain⟨n,hn⟩:=aC (l.length)
 obtain⟨rv,dJ⟩:=aC (jr l i)
 have hl63:=(aI hv).2.2
 rw[←hn] at hv hl63 ⊢
 rw[←dJ]
 have bI:Hid (rv=qp l i n∧n=l.length):=ah ⟨by rw[dJ,hn];rfl,hn⟩
 have HV:=ah hv
 have H:=ah h
 clear hv h dJ hn
 go_enter Tryz.func179,Tryz.ntmps179
 go_wp2
 go_loopw [5] (fun iv wr=>∃k:Nat,iv=.int .i64 k∧k≤n∧Hid (qp l i k=true)∧Sat W wr (sep (kn I) A)) (fun iv _=>n-(intOf iv).toNat)
 case atStart=>exact⟨0,rfl,by omega,ah (uo l i),H.out⟩
 case round=>
  obtain⟨k,rfl,hk,HT,hS⟩:=hrel
  by_cases hlt:k<n
  ·have hltz:(k:Int)<(n:Int):=by omega
   have hkl:k<l.length:=by have:=bI.out.2;omega
   obtain⟨r,hr⟩:∃r,l[k]?=some r:=⟨_,List.getElem?_eq_getElem hkl⟩
   obtain⟨b,o,rfl,hcell⟩:=nZ HV.out hr
   have hd:=hS.drew
   have c0:=hcell _ hd.ext
   have HD:=ah hd
   have HR:=ah (And.intro hr (And.intro hlt hkl))
   have HBAD:Hid (mV l i k=false→rv=false):=ah fun e=>by rw[bI.out.1];exact wX hlt e
   clear hr hcell hS hd hlt hkl hk H
   by_cases n0:r<0
   ·have n0':decide (r<0)=true:=decide_eq_true n0
    have HF:Hid (rv=false):=ah (HBAD.out (EG HR.out.1 (.inl n0)))
    clear n0 HBAD
    go_upto_region 4 with (fail)
    refine aG rfl (fun _=>True) [(0,.p),(1,.p),(2,.p),(3,.t),(4,.p),(5,.p),(6,.p),(7,.p),(8,.p),(9,.t),(10,.p),(11,.p),(12,.p),(13,.p),(14,.p),(15,.p),(16,.p),(17,.p),(18,.p),(19,.p),(20,.t),(21,.p),(22,.p),(23,.p),(24,.p),(25,.t),(26,.p),(27,.p),(28,.p)] (by kernel_rfl) ?_
    have hS0:True:=trivial
    (repeat ((first|(refine iK (v:=?_) rfl rfl (fun w'=>?_) ?_;rotate_left;(go_simp;with_reducible rfl))|(refine iL (v:=?_) rfl rfl hS0 (fun w' hS=>?_) ?_;rotate_left;((try dsimp only at hS);go_simp;with_reducible rfl))|(refine iM (v:=?_) rfl rfl ?_ ?_;rotate_left;(go_simp;with_reducible rfl))|(refine dF rfl rfl ?_)|(refine dG rfl rfl hS0 ?_)|(refine dH rfl rfl ?_));simp only[Act.put,lsA,lsB,bV]))
    refine eF ?_
    clear c0
    go_wp2
    go_ret
    exact⟨by rw[HF.out];rfl,HD.out⟩
   ·have n0':decide (r<0)=false:=decide_eq_false n0
    by_cases n1:(i:Int)≤r
    ·have n1':decide ((i:Int)≤r)=true:=decide_eq_true n1
     have HF:Hid (rv=false):=ah (HBAD.out (EG HR.out.1 (.inr n1)))
     clear n0 n1 HBAD
     go_upto_region 4 with (fail)
     refine aG rfl (fun _=>True) [(0,.p),(1,.p),(2,.p),(3,.t),(4,.p),(5,.p),(6,.p),(7,.p),(8,.p),(9,.t),(10,.p),(11,.p),(12,.p),(13,.p),(14,.p),(15,.p),(16,.p),(17,.p),(18,.p),(19,.p),(20,.t),(21,.p),(22,.p),(23,.p),(24,.p),(25,.t),(26,.p),(27,.p),(28,.p)] (by kernel_rfl) ?_
     have hS0:True:=trivial
     (repeat ((first|(refine iK (v:=?_) rfl rfl (fun w'=>?_) ?_;rotate_left;(go_simp;with_reducible rfl))|(refine iL (v:=?_) rfl rfl hS0 (fun w' hS=>?_) ?_;rotate_left;((try dsimp only at hS);go_simp;with_reducible rfl))|(refine iM (v:=?_) rfl rfl ?_ ?_;rotate_left;(go_simp;with_reducible rfl))|(refine dF rfl rfl ?_)|(refine dG rfl rfl hS0 ?_)|(refine dH rfl rfl ?_));simp only[Act.put,lsA,lsB,bV]))
     refine eF ?_
     clear c0
     go_wp2
     go_ret
     exact⟨by rw[HF.out];rfl,HD.out⟩
    ·have n1':decide ((i:Int)≤r)=false:=decide_eq_false n1
     have HRR:Hid (0≤r∧r<(i:Int)):=ah ⟨by omega,by omega⟩
     clear n0 n1
     cases k with
     | zero=>
      rw[Nat.add_zero] at c0
      go_upto_region 4 with (fail)
      refine aG rfl (fun _=>True) [(0,.p),(1,.p),(2,.p),(3,.t),(4,.p),(5,.p),(6,.p),(7,.p),(8,.p),(9,.t),(10,.p),(11,.p),(12,.p),(13,.p),(14,.p),(15,.p),(16,.p),(17,.p),(18,.p),(19,.p),(20,.t),(21,.p),(22,.p),(23,.p),(24,.p),(25,.t),(26,.p),(27,.p),(28,.p)] (by kernel_rfl) ?_
      have hS0:True:=trivial
      (repeat ((first|(refine iK (v:=?_) rfl rfl (fun w'=>?_) ?_;rotate_left;(go_simp;with_reducible rfl))|(refine iL (v:=?_) rfl rfl hS0 (fun w' hS=>?_) ?_;rotate_left;((try dsimp only at hS);go_simp;with_reducible rfl))|(refine iM (v:=?_) rfl rfl ?_ ?_;rotate_left;(go_simp;with_reducible rfl))|(refine dF rfl rfl ?_)|(refine dG rfl rfl hS0 ?_)|(refine dH rfl rfl ?_));simp only[Act.put,lsA,lsB,bV]))
      refine eF ?_
      clear c0
      go_wp2
      go_roundw
      case rel=>exact⟨1,by go_num,by have:=HR.out;omega,ah (by rw[lS,HT.out,Ny HR.out.1,decide_eq_true HRR.out.1,decide_eq_true HRR.out.2];rfl),HD.out⟩
      case measure=>simp[intOf];have:=HR.out;omega
     | succ k=>
      obtain⟨q,hq⟩:∃q,l[k]?=some q:=⟨_,List.getElem?_eq_getElem (by have:=HR.out.2.2;omega)⟩
      obtain⟨b',o',e',hcj⟩:=nZ HV.out hq
      cases e'
      have c1:=hcj _ HD.out.ext
      have hjw:IntKind.i64.wrap (k:Int)=(k:Int):=IntWalk.i64_in _ (by omega)
      have hjn:(k:Int)<(n:Int):=by omega
      have hj0:(0:Int)<(k:Int)+1:=by omega
      have hj1:(k:Int)+1<(n:Int):=by omega
      have hjz:(0:Int)≤(k:Int)+1:=by omega
      have hjt:((k:Int)+1).toNat=k+1:=by omega
      have HQ:=ah hq
      clear hq hcj hltz
      by_cases n2:r≤q
      ·have n2':decide (r≤q)=true:=decide_eq_true n2
       have HF:Hid (rv=false):=ah (HBAD.out (by rw[Fj HR.out.1 HQ.out,decide_eq_false (show ¬q<r by omega)];simp))
       clear n2
       go_upto_region 4 with (fail)
       refine aG rfl (fun _=>True) [(0,.p),(1,.p),(2,.p),(3,.t),(4,.p),(5,.p),(6,.p),(7,.p),(8,.p),(9,.t),(10,.p),(11,.p),(12,.p),(13,.p),(14,.p),(15,.p),(16,.p),(17,.p),(18,.p),(19,.p),(20,.t),(21,.p),(22,.p),(23,.p),(24,.p),(25,.t),(26,.p),(27,.p),(28,.p)] (by kernel_rfl) ?_
       have hS0:True:=trivial
       (repeat ((first|(refine iK (v:=?_) rfl rfl (fun w'=>?_) ?_;rotate_left;(go_simp;with_reducible rfl))|(refine iL (v:=?_) rfl rfl hS0 (fun w' hS=>?_) ?_;rotate_left;((try dsimp only at hS);go_simp;with_reducible rfl))|(refine iM (v:=?_) rfl rfl ?_ ?_;rotate_left;(go_simp;with_reducible rfl))|(refine dF rfl rfl ?_)|(refine dG rfl rfl hS0 ?_)|(refine dH rfl rfl ?_));simp only[Act.put,lsA,lsB,bV]))
       refine eF ?_
       clear c0 c1
       go_wp2
       go_ret
       exact⟨by rw[HF.out];rfl,HD.out⟩
      ·have n2':decide (r≤q)=false:=decide_eq_false n2
       have HQR:Hid (q<r):=ah (by omega)
       clear n2
       go_upto_region 4 with (fail)
       refine aG rfl (fun _=>True) [(0,.p),(1,.p),(2,.p),(3,.t),(4,.p),(5,.p),(6,.p),(7,.p),(8,.p),(9,.t),(10,.p),(11,.p),(12,.p),(13,.p),(14,.p),(15,.p),(16,.p),(17,.p),(18,.p),(19,.p),(20,.t),(21,.p),(22,.p),(23,.p),(24,.p),(25,.t),(26,.p),(27,.p),(28,.p)] (by kernel_rfl) ?_
       have hS0:True:=trivial
       (repeat ((first|(refine iK (v:=?_) rfl rfl (fun w'=>?_) ?_;rotate_left;(go_simp;with_reducible rfl))|(refine iL (v:=?_) rfl rfl hS0 (fun w' hS=>?_) ?_;rotate_left;((try dsimp only at hS);go_simp;with_reducible rfl))|(refine iM (v:=?_) rfl rfl ?_ ?_;rotate_left;(go_simp;with_reducible rfl))|(refine dF rfl rfl ?_)|(refine dG rfl rfl hS0 ?_)|(refine dH rfl rfl ?_));simp only[Act.put,lsA,lsB,bV]))
       refine eF ?_
       clear c0 c1
       go_wp2
       go_roundw
       case rel=>exact⟨k+2,by go_num,by have:=HR.out;omega,ah (by rw[lS,HT.out,Fj HR.out.1 HQ.out,decide_eq_true HRR.out.1,decide_eq_true HRR.out.2,decide_eq_true HQR.out];rfl),HD.out⟩
       case measure=>simp[intOf];have:=HR.out;omega
  ·obtain rfl:k=n:=by omega
   have HS:=ah hS
   have HTT:Hid (rv=true):=ah (by rw[bI.out.1];exact HT.out)
   clear hS H
   go_wp2
   go_ret
   exact⟨by rw[HTT.out];rfl,HS.out⟩
set_option maxRecDepth 100000 in
set_option maxHeartbeats 4000000 in
theorem nP {W w:World} {A:aB} {I:Mem} (a:Option Addr) (n c:Nat) (l:List Cl) (hv:(kV.slice 5).rel I [.slice a n c] l) (hB:∀x∈l,x.body.size≤mW) (h:Sat W w (sep (kn I) A)):
 Calls Tryz.prog 140 #[.slice a n c] w fun e w'=>e=.returned (.int .i64 (qF l))∧Sat W w' (sep (kn I) A):=by
 have hn:=(aI hv).1
 have hl63:=(aI hv).2.2
 obtain⟨rv,dJ⟩:=aC (qF l)
 rw[←dJ]
 have bI:Hid (rv=(if 32<n then 4 else pI 0 l)∧n=l.length):=ah ⟨by rw[dJ,hn];rfl,hn⟩
 have HV:=ah hv
 have Kq:=ah hB
 have H:=ah h
 clear hv h dJ hn hB
 by_cases h32:32<n
 ·have Ld:(32:Int)<(n:Int):=by omega
  have HF:Hid (rv=4):=ah (by rw[bI.out.1,if_pos h32])
  clear h32
  go_enter Tryz.func140,Tryz.ntmps140
  go_wp2
  go_ret
  exact⟨by rw[HF.out];rfl,H.out⟩
 ·have Ld:¬(32:Int)<(n:Int):=by omega
  have HG:Hid (rv=pI 0 l):=ah (by rw[bI.out.1,if_neg h32])
  have aaT:(n:Int)≤32:=by omega
  clear h32
  go_enter Tryz.func140,Tryz.ntmps140
  go_upto_region 3 with (fail)
  clear Ld
  go_wp2
  go_loopw [3] (fun iv wr=>∃k:Nat,iv=.int .i64 k∧k≤n∧Hid (rv=pI k (l.drop k))∧Sat W wr (sep (kn I) A)) (fun iv _=>n-(intOf iv).toNat)
  case atStart=>exact⟨0,rfl,by omega,HG,H.out⟩
  case round=>
   obtain⟨k,rfl,hk,HT,hS⟩:=hrel
   by_cases hlt:k<n
   ·have hltz:(k:Int)<(n:Int):=by omega
    have hkl:k<l.length:=by have:=bI.out.2;omega
    obtain⟨x,hx⟩:∃x,l[k]?=some x:=⟨_,List.getElem?_eq_getElem hkl⟩
    obtain⟨b,o,ra,rc,p,q,x1,n1,c1,x2,n2,c2,rfl,hrr,hrb,hcell⟩:=vO HV.out hx
    obtain⟨k0,k1,k2,k3,k4⟩:=hcell wr hS.ext
    have hT:=HT.out
    rw[D6 hx] at hT
    obtain⟨nr,hnr⟩:=aC (x.refs.length)
    obtain⟨rf,hrf⟩:=aC (jr x.refs k)
    obtain⟨be,hbe⟩:=aC (jO x.body)
    have hrs:=Gv ra rc x.refs k hrr hS
    rw[←hrf,←hnr] at hrs
    have Qz:=ah hrs
    have hvs:∀w' A',Sat W w' (sep (kn I) A')→Calls Tryz.prog 123 #[.agg #[.int .i64 p,.int .i64 q,.slice x1 n1 c1,.slice x2 n2 c2]] w' fun e w''=>e=.returned (.int .i64 be)∧Sat W w'' (sep (kn I) A'):=fun w' A' h'=>by
     rw[hbe];exact jZ x.body p q x1 n1 c1 x2 n2 c2 hrb (Kq.out x (List.mem_of_getElem? hx)) h'
    have Ho:=ah hvs
    have HC:=ah hcell
    have Xk:=(aI hrr).2.2
    rw[←hnr] at hT k0 Xk
    rw[←hrf,←hbe] at hT
    have HT2:=ah hT
    have HK:=ah hlt
    have HS0:=ah hS
    clear hx hrr hrb hcell hT hnr hrf hbe hrs hvs hS hlt hkl hk H HT HG
    by_cases h8:8<nr
    ·have h8z:(8:Int)<(nr:Int):=by omega
     have HF:Hid (rv=4):=ah (by rw[HT2.out,if_pos h8])
     clear h8
     go_wp2
     go_ret
     exact⟨by rw[HF.out];rfl,HS0.out⟩
    ·have h8z:¬(8:Int)<(nr:Int):=by omega
     have HT3:Hid (rv=if rf=false then 1 else if be≠0 then be else pI (k+1) (l.drop (k+1))):=ah (by rw[HT2.out,if_neg h8])
     clear h8 HT2
     go_wp2_with fail
     refine Qz.out.mono ?_
     rintro e w2 ⟨rfl,h2⟩
     have H2:=ah h2
     clear h2 Qz k0 k1 k2 k3 k4 h8z
     obtain⟨k0,k1,k2,k3,k4⟩:=HC.out w2 H2.out.ext
     cases rf with
     | false=>
      have HF:Hid (rv=1):=ah (by rw[HT3.out];rfl)
      go_wp2
      go_ret
      exact⟨by rw[HF.out];rfl,H2.out⟩
     | true=>
      go_wp2_with fail
      refine (Ho.out _ _ H2.out).mono ?_
      rintro e w3 ⟨rfl,h3⟩
      have H3:=ah h3
      clear h3 H2 Ho k0 k1 k2 k3 k4
      by_cases hb0:be=0
      ·have HF:Hid (rv=pI (k+1) (l.drop (k+1))):=ah (by rw[HT3.out];simp[hb0])
       subst hb0
       go_wp2
       go_roundw
       case rel=>exact⟨k+1,by go_num,by have:=HK.out;omega,HF,H3.out⟩
       case measure=>simp[intOf];have:=HK.out;omega
      ·have HF:Hid (rv=be):=ah (by rw[HT3.out];simp[hb0])
       have hb1:(be !=0)=true:=by simpa using hb0
       have hb2:(be==0)=false:=by simpa using hb0
       clear hb0
       go_wp2
       go_ret
       exact⟨by rw[HF.out];rfl,H3.out⟩
   ·obtain rfl:k=n:=by omega
    have HF:Hid (rv=0):=ah (by
     have:=HT.out
     rw[List.drop_of_length_le (by have:=bI.out.2;omega)] at this
     exact this)
    have HS:=ah hS
    clear hS H
    go_wp2
    go_ret
    exact⟨by rw[HF.out];rfl,HS.out⟩
end Go.Proofs.YthfmaclnccdcbaaGreatDoor
namespace Go.Proofs.YthfmaclnccdcbaaGreatDoor
open Go.RowKit PA
set_option maxRecDepth 100000 in
set_option maxHeartbeats 4000000 in
theorem KR {W w:World} {A:aB} {I:Mem} (a:Option Addr) (c:Nat) (l:List Int) (i:Nat) (hv:(oU.slice 1).rel I [.slice a l.length c] l) (h:Sat W w (sep (kn I) A)):
 Calls Tryz.prog 156 #[.slice a l.length c,.int .i64 (i:Nat)] w fun e w'=>e=.returned (.bool (jr l i))∧Sat W w' (sep (kn I) A):=by
 obtain⟨n,hn⟩:=aC (l.length)
 obtain⟨rv,dJ⟩:=aC (jr l i)
 have hl63:=(aI hv).2.2
 rw[←hn] at hv hl63 ⊢
 rw[←dJ]
 have bI:=ah (And.intro dJ hn)
 have HV:=ah hv
 have H:=ah h
 clear hv h dJ hn
 go_enter Tryz.func156,Tryz.ntmps156
 go_wp2_with fail
 go_loopw [5,10] (fun lv kv wr=>∃(k:Nat) (z:Int),lv=.int .i64 z∧kv=.int .i64 k∧k≤n∧Hid (qp l i k=true∧(k=0→z=-1)∧(∀j,k=j+1→l[j]?=some z))∧Sat W wr (sep (kn I) A)) (fun _ kv _=>n-(intOf kv).toNat)
 case atStart=>exact⟨0,-1,rfl,rfl,by omega,ah ⟨uo l i,fun _=>rfl,fun j hj=>by omega⟩,H.out⟩
 case round=>
  obtain⟨k,z,rfl,rfl,hk,HT,hS⟩:=hrel
  clear H
  by_cases hlt:k<n
  ·have hltz:(k:Int)<(n:Int):=by omega
   obtain⟨r,hr⟩:∃r,l[k]?=some r:=⟨_,List.getElem?_eq_getElem (by have:=bI.out.2;omega)⟩
   obtain⟨b,o,rfl,hcell⟩:=nZ HV.out hr
   have j0:=hcell wr hS.ext
   have hat:mV l i k=(!(decide (r≤z)||decide ((i:Int)≤r))):=by
    cases k with
    | zero=>
     have hz:z=-1:=HT.out.2.1 rfl
     rw[Ny hr,hz]
     rw[Bool.eq_iff_iff];simp;omega
    | succ k=>
     have hz:=HT.out.2.2 k rfl
     rw[Fj hr hz]
     have hb:0≤z:=by
      have h1:=HT.out.1
      rw[lS] at h1
      simp only[Bool.and_eq_true] at h1
      have h2:=h1.2
      unfold mV at h2
      rw[hz] at h2
      simp only[Bool.and_eq_true,decide_eq_true_eq] at h2
      exact h2.1
     rw[Bool.eq_iff_iff];simp;omega
   have HAT:=ah (And.intro hat (And.intro hr hlt))
   have HS:=ah hS
   clear hat hr hcell hlt hk hS
   by_cases h1:r≤z
   ·have hF:rv=false:=by
     rw[bI.out.1];unfold jr
     rw[←bI.out.2]
     exact wX HAT.out.2.2 (by rw[HAT.out.1,decide_eq_true h1];rfl)
    have HF:=ah hF
    clear hF
    go_wp2
    go_ret
    exact⟨by rw[HF.out];try rfl,HS.out⟩
   ·by_cases h2:(i:Int)≤r
    ·have hF:rv=false:=by
      rw[bI.out.1];unfold jr
      rw[←bI.out.2]
      exact wX HAT.out.2.2 (by rw[HAT.out.1,decide_eq_true h2];simp)
     have HF:=ah hF
     clear hF
     go_wp2
     go_ret
     exact⟨by rw[HF.out];try rfl,HS.out⟩
    ·have HN:Hid (qp l i (k+1)=true):=ah (by rw[lS,HT.out.1,HAT.out.1,decide_eq_false h1,decide_eq_false h2];rfl)
     go_wp2
     go_roundw
     case rel=>exact⟨k+1,r,rfl,by go_num,by have:=HAT.out.2.2;omega,ah ⟨HN.out,fun e=>by omega,fun j hj=>(by have e:j=k:=(by omega);rw[e];exact HAT.out.2.1)⟩,HS.out⟩
     case measure=>simp[intOf];have:=HAT.out.2.2;omega
  ·obtain rfl:k=n:=by omega
   have HF:Hid (rv=true):=ah (by rw[bI.out.1];unfold jr;rw[←bI.out.2];exact HT.out.1)
   have HS:=ah hS
   clear hS hlt hk HT
   go_wp2
   go_ret
   exact⟨by rw[HF.out];try rfl,HS.out⟩
set_option maxRecDepth 100000 in
set_option maxHeartbeats 4000000 in
theorem KT {W:World} {I:Mem} (f:Fm):∀(w:World) (A:aB) (p q:Int) (x1:Option Addr) (n1 c1:Nat) (x2:Option Addr) (n2 c2:Nat),rF.rel I [.int .i64 p,.int .i64 q,.slice x1 n1 c1,.slice x2 n2 c2] f→f.size≤mW→Sat W w (sep (kn I) A) →
 Calls Tryz.prog 162 #[.agg #[.int .i64 p,.int .i64 q,.slice x1 n1 c1,.slice x2 n2 c2]] w fun e w'=>e=.returned (.int .i64 (f.deep:Nat))∧Sat W w' (sep (kn I) A):=by
 refine Fm.ind (P:=fun f=>∀(w:World) (A:aB) (p q:Int) (x1:Option Addr) (n1 c1:Nat) (x2:Option Addr) (n2 c2:Nat),rF.rel I [.int .i64 p,.int .i64 q,.slice x1 n1 c1,.slice x2 n2 c2] f→f.size≤mW→Sat W w (sep (kn I) A) →
  Calls Tryz.prog 162 #[.agg #[.int .i64 p,.int .i64 q,.slice x1 n1 c1,.slice x2 n2 c2]] w fun e w'=>e=.returned (.int .i64 (f.deep:Nat))∧Sat W w' (sep (kn I) A)) (fun o n i k ih=>?_) f
 intro w A p q x1 n1 c1 x2 n2 c2 hr hsz h
 obtain⟨x1',c1',x2',c2',e,hi,hk⟩:=dL.1 hr
 simp only[List.cons.injEq,Value.int.injEq,Value.slice.injEq,true_and,and_true] at e
 obtain⟨rfl,rfl,⟨rfl,rfl,rfl⟩,⟨rfl,rfl,rfl⟩⟩:=e
 have h1:=h.alloc (.cells #[.int .i64 p,.int .i64 q,.slice x1 i.length c1,.slice x2 k.length c2] 34)
 obtain⟨B,hB⟩:=aC (w.heap.size)
 obtain⟨w1,hw1⟩:=aC (w.alloc (.cells #[.int .i64 p,.int .i64 q,.slice x1 i.length c1,.slice x2 k.length c2] 34))
 rw[←hB,←hw1] at h1
 have HB:=ah (And.intro hB hw1)
 have H1:=ah h1.drop
 obtain⟨-,-,-,k3⟩:=kS h1
 obtain⟨nk,hnk⟩:=aC (k.length)
 obtain⟨ni,hni⟩:=aC (i.length)
 obtain⟨sz,hs⟩:=aC (Fm.sizes k)
 have hszz:(Fm.mk p q i k).size=sz+1:=by rw[hs,Fm.size]
 obtain⟨dk,hdk⟩:=aC (Fm.bZ k)
 have hdd:(Fm.mk p q i k).deep=dk+1:=by rw[hdk,Fm.deep]
 have hdl:=Fm.Iu k
 have uq:=(aI hk).2.2
 rw[hszz] at hsz
 rw[hdd]
 have HIH:=ah ih
 rw[←hnk] at hk uq k3 ⊢
 rw[←hni] at ⊢
 simp only[←hni,←hnk] at HB
 have HK:=ah hk
 have HN:=ah (And.intro hnk (And.intro hs hdk))
 have hdz:(dk:Int)≤1000000:=by unfold mW at hsz;omega
 have Iw:sz≤1000000:=by unfold mW at hsz;omega
 have He:=ah Iw
 clear hr hsz h hi hk h1 hB hw1 hnk hni hs hszz ih Iw hdk hdd hdl
 go_enter Tryz.func162,Tryz.ntmps162
 go_upto_region 1 with (fail)
 rw[←HB.out.1,←HB.out.2]
 go_wp2_with fail
 go_loopw [3,9] (fun sv iv wr=>∃(j s:Nat),sv=.int .i64 s∧iv=.int .i64 j∧j≤nk∧s≤dk∧Hid (s=Fm.bZ (k.take j))∧Sat W wr (sep (kn I) A)) (fun _ iv _=>nk-(intOf iv).toNat)
 case atStart=>exact⟨0,0,rfl,rfl,by omega,by omega,ah (by simp[Fm.bZ]),H1.out⟩
 case round=>
  obtain⟨j,s,rfl,rfl,hj,hsl,HS,hS⟩:=hrel
  clear k3
  by_cases hlt:j<nk
  ·have hltz:(j:Int)<(nk:Int):=by omega
   obtain⟨g,hg⟩:∃g,k[j]?=some g:=⟨_,List.getElem?_eq_getElem (by have:=HN.out.1;omega)⟩
   obtain⟨b,o,p',q',y1,m1,d1,y2,m2,d2,rfl,hgr,hcell⟩:=gQ HK.out hg
   have hmem:g∈k:=List.mem_of_getElem? hg
   obtain⟨j0,j1,j2,j3⟩:=hcell wr hS.ext
   obtain⟨sg,hsg⟩:=aC (g.deep)
   have hgs:=Fm.jQ hmem
   have htk:=Fm.zX k j hg
   have htl:Fm.bZ (k.take (j+1))≤dk:=by
    rw[HN.out.2.2]
    have key:∀(l:List Fm) (i:Nat),Fm.bZ (l.take i)≤Fm.bZ l:=by
     intro l
     induction l with
     | nil=>intro i;simp
     | cons g l ih=>
      intro i
      cases i with
      | zero=>simp[Fm.bZ]
      | succ i=>rw[List.take_succ_cons,Fm.bZ,Fm.bZ];have:=ih i;omega
    exact key _ _
   obtain⟨mx,hmx⟩:=aC (max s sg)
   have hb:mx≤dk:=by rw[hmx,HS.out,hsg,←htk];exact htl
   have YK:(if s<sg then (sg:Int) else (s:Int))=(mx:Int):=by split<;>omega
   have ZR:=ah YK
   have hAl:=hS.alloc (.cells #[.int .i64 p',.int .i64 q',.slice y1 m1 d1,.slice y2 m2 d2] 34)
   obtain⟨M,hM⟩:=aC (wr.heap.size)
   obtain⟨w2,hw2⟩:=aC (wr.alloc (.cells #[.int .i64 p',.int .i64 q',.slice y1 m1 d1,.slice y2 m2 d2] 34))
   rw[←hM,←hw2] at hAl
   obtain⟨t0,t1,t2,t3⟩:=kS hAl
   have Fp:=ah (And.intro hM hw2)
   have hrec:=HIH.out g hmem w2 A p' q' y1 m1 d1 y2 m2 d2 hgr (by have:=He.out;have:=HN.out.2.1;unfold mW;omega) hAl.drop
   rw[←hsg] at hrec
   have HR:=ah hrec
   have HT:Hid (mx=Fm.bZ (k.take (j+1))):=ah (by rw[htk,hmx,HS.out,hsg])
   have CY:=ah (And.intro hb hlt)
   clear hgr hcell hmem hsg hgs htk htl hrec hg hS hb hlt hj hsl H1 hmx YK hAl hM hw2
   go_upto_region 5 with (fail)
   rw[←Fp.out.1,←Fp.out.2]
   go_wp2_with fail
   refine HR.out.mono ?_
   rintro e w3 ⟨rfl,h2⟩
   have H2:=ah h2
   clear h2 HR j0 j1 j2 j3 t0 t1 t2 t3
   go_wp2
   go_roundw
   case rel=>exact⟨j+1,mx,congrArg (Value.int .i64) ZR.out,by go_num,by have:=CY.out;omega,CY.out.1,HT,H2.out⟩
   case measure=>simp[intOf];have:=CY.out;omega
  ·obtain rfl:j=nk:=by omega
   have hss:s=dk:=by rw[HS.out,HN.out.2.2,List.take_of_length_le (by have:=HN.out.1;omega)]
   have Fq:=ah hss
   have HF:=ah hS
   clear hS hss H1
   go_wp2
   go_ret
   exact⟨by rw[Fq.out];simp,HF.out⟩
end Go.Proofs.YthfmaclnccdcbaaGreatDoor
namespace PA
open Go Go.RowKit
structure En where
 far:Int
 n:Int
 d:Int
 af:Bool
def En.cs (e:En):List Value:=[.int .i64 e.far,.int .i64 e.n,.int .i64 e.d,.bool e.af]
def zY (x:Iv):En:=if x.li=true then ⟨-1,0,0,false⟩ else ⟨0,x.ln,x.ld,x.lo⟩
def zZ (x:Iv):En:=if x.hi=true then ⟨1,0,0,false⟩ else ⟨0,x.hn,x.hd,!x.ho⟩
def KU (a b:En):Bool:=if a.far=b.far then (if a.far=0 then (if a.n*b.d=b.n*a.d then (!a.af&&b.af) else decide (a.n*b.d<b.n*a.d)) else false) else decide (a.far<b.far)
def sO (r:Rt) (o i:Bool):Bool:=if i=true then zR r&&!o else dX r
theorem Iy {a b:Rt} (ha:okR a=true) (hb:okR b=true):(a.n*b.d=b.n*a.d)↔VB a b=true:=by
 obtain⟨an,ad⟩:=a
 obtain⟨bn,bd⟩:=b
 obtain⟨a1,-,-,-,ag⟩:=(Fv an ad).1 ha
 obtain⟨b1,-,-,-,bg⟩:=(Fv bn bd).1 hb
 unfold VB
 simp only[Bool.and_eq_true,beq_iff_eq]
 constructor
 ·intro h
  have hn:=congrArg Int.natAbs h
  rw[Int.natAbs_mul,Int.natAbs_mul] at hn
  have h1:ad.natAbs ∣ bd.natAbs:=by
   refine Nat.Coprime.dvd_of_dvd_mul_left (k:=ad.natAbs) (n:=bd.natAbs) (m:=an.natAbs) (by rw[Nat.Coprime,Nat.gcd_comm];exact ag) ?_
   rw[hn];exact Nat.dvd_mul_left _ _
  have h2:bd.natAbs ∣ ad.natAbs:=by
   refine Nat.Coprime.dvd_of_dvd_mul_left (k:=bd.natAbs) (n:=ad.natAbs) (m:=bn.natAbs) (by rw[Nat.Coprime,Nat.gcd_comm];exact bg) ?_
   rw[←hn];exact Nat.dvd_mul_left _ _
  have h3:ad.natAbs=bd.natAbs:=Nat.dvd_antisymm h1 h2
  have h4:ad=bd:=by omega
  subst h4
  exact⟨Int.eq_of_mul_eq_mul_right (by omega) h,rfl⟩
 ·rintro⟨rfl,rfl⟩;rfl
theorem pq {r:Rt} (h:dX r=true):okR r=true:=by
 unfold dX at h;simp only[Bool.and_eq_true] at h;exact h.1
theorem Aa (x:Iv):fQ x=(sO x.lw x.lo x.li&&(sO x.up x.ho x.hi&&KU (zY x) (zZ x))):=by
 obtain⟨ln,ld,hn,hd,lo,ho,li,hi⟩:=x
 unfold fQ sO zY zZ Iv.lw Iv.up
 simp only
 cases li with
 | true=>
  cases hi with
  | true=>cases zR ⟨ln,ld⟩<;>cases zR ⟨hn,hd⟩<;>cases lo<;>cases ho<;>simp[KU]
  | false=>cases zR ⟨ln,ld⟩<;>cases dX ⟨hn,hd⟩<;>cases lo<;>cases ho<;>simp[KU]
 | false=>
  cases hi with
  | true=>cases dX ⟨ln,ld⟩<;>cases zR ⟨hn,hd⟩<;>cases lo<;>cases ho<;>simp[KU]
  | false=>
   cases h1:dX ⟨ln,ld⟩ with
   | false=>simp
   | true=>
    cases h2:dX ⟨hn,hd⟩ with
    | false=>simp
    | true=>
     have hc:=Iy (pq h1) (pq h2)
     simp only at hc
     unfold KU KW
     simp only[Bool.false_and,Bool.or_false,Bool.not_false,Bool.not_true,Bool.and_false,Bool.false_eq_true,if_false,Bool.true_and,if_true]
     by_cases e:ln*hd=hn*ld
     ·rw[if_pos e,if_pos (hc.1 e)]
     ·rw[if_neg e,if_neg (fun h=>e (hc.2 h))]
theorem rZ {x:Iv} (h:fQ x=true):sO x.lw x.lo x.li=true∧sO x.up x.ho x.hi=true:=by
 rw[Aa] at h
 simp only[Bool.and_eq_true] at h
 exact⟨h.1,h.2.1⟩
theorem KX {x y:Iv} (hx:fQ x=true) (hy:fQ y=true):pz x y=KU (zZ x) (zY y):=by
 have h1:=(rZ hx).2
 have h2:=(rZ hy).1
 clear hx hy
 obtain⟨ln,ld,hn,hd,lo,ho,li,hi⟩:=x
 obtain⟨Qq,ld',hn',hd',lo',ho',SS,hi'⟩:=y
 unfold sO Iv.lw Iv.up at *
 simp only at h1 h2
 unfold pz zY zZ Iv.lw Iv.up
 simp only
 cases hi with
 | true=>cases SS<;>simp[KU]
 | false=>
  cases SS with
  | true=>simp[KU]
  | false=>
   simp only[Bool.false_eq_true,if_false] at h1 h2
   have hc:=Iy (pq h1) (pq h2)
   simp only at hc
   unfold KU KW
   simp only[Bool.or_self,Bool.false_eq_true,if_false,if_true,Bool.not_not]
   by_cases e:hn*ld'=Qq*hd
   ·rw[if_pos e,if_pos (hc.1 e)]
   ·rw[if_neg e,if_neg (fun h=>e (hc.2 h))]
def Nz (a b:En):Prop:=a.far=b.far→a.far=0→(-9223372036854775808≤a.n*b.d∧a.n*b.d≤9223372036854775807)∧-9223372036854775808≤b.n*a.d∧b.n*a.d≤9223372036854775807
theorem oP {W w:World} {A:aB} {g:Nat} {a b c d:Value} {t:TypeId} (h:Sat W w (sep (blk g (.cells #[a,b,c,d] t (0,0))) A)):
 w.cell? ⟨g,0,none⟩=some a∧w.cell? ⟨g,1,none⟩=some b∧w.cell? ⟨g,2,none⟩=some c∧w.cell? ⟨g,3,none⟩=some d:=⟨h.cell 0,h.cell 1,h.cell 2,h.cell 3⟩
theorem jH {W w:World} {A:aB} {g:Nat} {a b c d:Value} {t:TypeId} (h:Sat W w (sep (blk g (.cells #[a,b,c,d] t (0,0))) A)):
 w.frozen? ⟨g,0,none⟩=false∧w.frozen? ⟨g,1,none⟩=false∧w.frozen? ⟨g,2,none⟩=false∧w.frozen? ⟨g,3,none⟩=false:=⟨h.aF 0,h.aF 1,h.aF 2,h.aF 3⟩
theorem iI {W w:World} {A:aB} {g:Nat} {a b c d:Value} {t:TypeId} (h:Sat W w (sep (blk g (.cells #[a,b,c,d] t (0,0))) A)) (p q r s:Value):
 Sat W ((((w.setCell ⟨g,0,none⟩ p).setCell ⟨g,1,none⟩ q).setCell ⟨g,2,none⟩ r).setCell ⟨g,3,none⟩ s) (sep (blk g (.cells #[p,q,r,s] t (0,0))) A):=
 (((h.setCell 0 p).setCell 1 q).setCell 2 r).setCell 3 s
end PA
namespace Go.Proofs.YthfmaclnccdcbaaGreatDoor
open Go.RowKit PA
theorem zx {a b:Rt} (ha:dX a=true) (hb:dX b=true):-9223372036854775808≤a.n*b.d∧a.n*b.d≤9223372036854775807:=by
 have h1:=lF ha
 have h2:=lF hb
 have:=Fz h1.n1 h1.n2 (by have:=h2.d1;omega) h2.d2
 omega
theorem Qr {x y:Iv} (hx:fQ x=true) (hy:fQ y=true):Nz (zZ x) (zY y):=by
 have h1:=(rZ hx).2
 have h2:=(rZ hy).1
 unfold sO at h1 h2
 intro e1 e2
 unfold zZ zY at *
 cases hh:x.hi with
 | true=>rw[hh] at e2;simp at e2
 | false=>
  cases hl:y.li with
  | true=>rw[hh,hl] at e1;simp at e1
  | false=>
   rw[hh] at h1
   rw[hl] at h2
   simp only[Bool.false_eq_true,if_false] at h1 h2 ⊢
   exact⟨zx h1 h2,zx h2 h1⟩
theorem Qs {x:Iv} (h1:sO x.lw x.lo x.li=true) (h2:sO x.up x.ho x.hi=true):Nz (zY x) (zZ x):=by
 unfold sO at h1 h2
 intro e1 e2
 unfold zZ zY at *
 cases hh:x.li with
 | true=>rw[hh] at e2;simp at e2
 | false=>
  cases hl:x.hi with
  | true=>rw[hh,hl] at e1;simp at e1
  | false=>
   rw[hh] at h1
   rw[hl] at h2
   simp only[Bool.false_eq_true,if_false] at h1 h2 ⊢
   exact⟨zx h1 h2,zx h2 h1⟩
set_option maxRecDepth 100000 in
set_option maxHeartbeats 4000000 in
theorem Ad {W w:World} {A:aB} (a b:En) (hf:Nz a b) (h:Sat W w A):
 Calls Tryz.prog 215 #[.agg a.cs.toArray,.agg b.cs.toArray] w fun e w'=>e=.returned (.bool (KU a b))∧Sat W w' A:=by
 obtain⟨af,an,ad,aa⟩:=a
 obtain⟨bf,bn,bd,ba⟩:=b
 unfold Nz at hf
 simp only at hf
 obtain⟨p,hp⟩:=aC (an*bd)
 obtain⟨q,hq⟩:=aC (bn*ad)
 have hr:KU ⟨af,an,ad,aa⟩ ⟨bf,bn,bd,ba⟩=if af=bf then (if af=0 then (if p=q then (!aa&&ba) else decide (p<q)) else false) else decide (af<bf):=by rw[hp,hq];rfl
 rw[←hp,←hq] at hf
 have e1:an*bd=p:=hp.symm
 have e2:bn*ad=q:=hq.symm
 rw[hr]
 have h1:=(h.alloc (.cells #[.int .i64 af,.int .i64 an,.int .i64 ad,.bool aa] 223)).alloc (.cells #[.int .i64 bf,.int .i64 bn,.int .i64 bd,.bool ba] 223)
 rw[World.size_alloc] at h1
 obtain⟨B,hB⟩:=aC (w.heap.size)
 obtain⟨w1,hw1⟩:=aC ((w.alloc (.cells #[.int .i64 af,.int .i64 an,.int .i64 ad,.bool aa] 223)).alloc (.cells #[.int .i64 bf,.int .i64 bn,.int .i64 bd,.bool ba] 223))
 rw[←hB,←hw1] at h1
 have HB:=ah (And.intro hB hw1)
 have H1:=ah h1
 obtain⟨k0,k1,k2,k3⟩:=oP h1
 obtain⟨j0,j1,j2,j3⟩:=oP h1.p1
 obtain⟨rv,dJ⟩:=aC (if af=bf then (if af=0 then (if p=q then (!aa&&ba) else decide (p<q)) else false) else decide (af<bf))
 rw[←dJ]
 have bI:=ah dJ
 clear h h1 hp hq hr dJ hB hw1
 unfold En.cs
 by_cases c1:af=bf
 ·subst c1
  by_cases c2:af=0
  ·subst c2
   obtain⟨⟨m1,m2⟩,m3,m4⟩:=hf rfl rfl
   clear hf
   go_enter Tryz.func215,Tryz.ntmps215
   go_upto_region 1 with (fail)
   rw[←HB.out.1,←HB.out.2]
   go_upto_region 5 with (fail)
   have hd:=H1.out.drew
   obtain⟨wd,hwd⟩:=aC (w1.drew)
   rw[←hwd] at hd
   have HD:=ah hd
   have nJ:=ah hwd
   clear k0 k1 k2 k3 j0 j1 j2 j3 hwd
   obtain⟨k0,k1,k2,k3⟩:=oP hd
   obtain⟨j0,j1,j2,j3⟩:=oP hd.p1
   clear hd
   refine aG rfl (fun _=>True) [(0,.p),(1,.p),(2,.t),(3,.p),(4,.p),(5,.t),(6,.p),(7,.p),(8,.p),(9,.t),(10,.p),(11,.p),(12,.t),(13,.p),(14,.p),(15,.p)] (by kernel_rfl) ?_
   rw[←nJ.out]
   have hS0:True:=trivial
   (repeat ((first|(refine iK (v:=?_) rfl rfl (fun w'=>?_) ?_;rotate_left;(go_simp;with_reducible rfl))|(refine iL (v:=?_) rfl rfl hS0 (fun w' hS=>?_) ?_;rotate_left;((try dsimp only at hS);go_simp;with_reducible rfl))|(refine iM (v:=?_) rfl rfl ?_ ?_;rotate_left;(go_simp;with_reducible rfl))|(refine dF rfl rfl ?_)|(refine dG rfl rfl hS0 ?_)|(refine dH rfl rfl ?_));simp only[Act.put,lsA,lsB,bV]))
   refine eF ?_
   have hwp:IntKind.i64.wrap p=p:=IntWalk.i64_in _ (by omega)
   have hwq:IntKind.i64.wrap q=q:=IntWalk.i64_in _ (by omega)
   simp only[hwp,hwq]
   clear e1 e2 m1 m2 m3 m4 hwp hwq
   by_cases c3:p=q
   ·have HF:Hid (rv=(!aa&&ba)):=ah (by rw[bI.out,if_pos rfl,if_pos rfl,if_pos c3])
    have c3b:(p !=q)=false:=by simp[c3]
    clear bI c3
    cases aa
    all_goals
     go_wp2
     go_ret
     exact⟨by rw[HF.out];try rfl,HD.out.drop.drop⟩
   ·have HF:Hid (rv=decide (p<q)):=ah (by rw[bI.out,if_pos rfl,if_pos rfl,if_neg c3])
    have c3b:(p !=q)=true:=by simp[c3]
    clear bI c3
    go_wp2
    go_ret
    exact⟨by rw[HF.out];try rfl,HD.out.drop.drop⟩
  ·have HF:Hid (rv=false):=ah (by rw[bI.out,if_pos rfl,if_neg c2])
   have c2b:(af !=0)=true:=by simp[c2]
   clear bI hf e1 e2
   go_enter Tryz.func215,Tryz.ntmps215
   go_upto_region 1 with (fail)
   rw[←HB.out.1,←HB.out.2]
   go_wp2
   go_ret
   exact⟨by rw[HF.out];try rfl,H1.out.drop.drop⟩
 ·have HF:Hid (rv=decide (af<bf)):=ah (by rw[bI.out,if_neg c1])
  have c1b:(af !=bf)=true:=by simp[c1]
  clear bI hf e1 e2
  go_enter Tryz.func215,Tryz.ntmps215
  go_upto_region 1 with (fail)
  rw[←HB.out.1,←HB.out.2]
  go_wp2
  go_ret
  exact⟨by rw[HF.out];try rfl,H1.out.drop.drop⟩
set_option maxHeartbeats 1000000 in
theorem Iz {W w:World} {A:aB} (n d:Int) (hB:Qu ⟨n,d⟩) (h:Sat W w A):
 Calls Tryz.prog 227 #[.agg #[.int .i64 n,.int .i64 d]] w fun e w'=>e=.returned (.bool (dX ⟨n,d⟩))∧Sat W w' A:=by
 have h1:=h.alloc (.cells #[.int .i64 n,.int .i64 d] 26)
 obtain⟨B,Xd⟩:=aC (w.heap.size)
 obtain⟨w1,hw1⟩:=aC (w.alloc (.cells #[.int .i64 n,.int .i64 d] 26))
 rw[←Xd,←hw1] at h1
 obtain⟨k0,k1,-,-⟩:=jL h1
 have HB:=ah (And.intro Xd hw1)
 have HV:=ah (qP ⟨n,d⟩ hB.n1 hB.n2 hB.d1 hB.d2 h1)
 obtain⟨o,ho⟩:=aC (okR ⟨n,d⟩)
 rw[←ho] at HV
 have hr:dX ⟨n,d⟩=(o&&(decide (n≤1073741824)&&(decide (-1073741824≤n)&&decide (d≤32768)))):=by unfold dX;rw[ho]
 rw[hr]
 clear hr ho h h1 Xd hw1 hB
 obtain⟨v,hv⟩:=aC ((o&&(decide (n≤1073741824)&&(decide (-1073741824≤n)&&decide (d≤32768)))))
 rw[←hv]
 have HVV:=ah hv
 clear hv
 cases o with
 | false=>
  go_enter Tryz.func227,Tryz.ntmps227
  go_upto_region 1 with (fail)
  rw[←HB.out.1,←HB.out.2]
  go_wp2_with fail
  refine HV.out.mono ?_
  rintro e w2 ⟨rfl,h2⟩
  have H2:=ah h2
  clear h2 HV k0 k1
  go_wp2
  go_ret
  exact⟨by rw[HVV.out];rfl,H2.out.drop⟩
 | true=>
  have HD:Hid ((if true=true then (0:Int) else 1)=0):=ah rfl
  rcases (show n < -1073741824∨-1073741824≤n by omega) with c1|c1
  ·
   go_enter Tryz.func227,Tryz.ntmps227
   go_upto_region 1 with (fail)
   rw[←HB.out.1,←HB.out.2]
   go_wp2_with fail
   refine HV.out.mono ?_
   rintro e w2 ⟨rfl,h2⟩
   obtain⟨k0,k1,-,-⟩:=jL h2
   have H2:=ah h2
   clear h2 HV
   rw[HD.out]
   go_wp2
   go_ret
   exact⟨by rw[HVV.out,decide_eq_false (show ¬-1073741824≤n by omega)];simp,H2.out.drop⟩
  ·rcases (show 1073741824<n∨n≤1073741824 by omega) with c2|c2
   ·
    go_enter Tryz.func227,Tryz.ntmps227
    go_upto_region 1 with (fail)
    rw[←HB.out.1,←HB.out.2]
    go_wp2_with fail
    refine HV.out.mono ?_
    rintro e w2 ⟨rfl,h2⟩
    obtain⟨k0,k1,-,-⟩:=jL h2
    have H2:=ah h2
    clear h2 HV
    rw[HD.out]
    go_wp2
    go_ret
    exact⟨by rw[HVV.out,decide_eq_false (show ¬n≤1073741824 by omega)];simp,H2.out.drop⟩
   ·
    go_enter Tryz.func227,Tryz.ntmps227
    go_upto_region 1 with (fail)
    rw[←HB.out.1,←HB.out.2]
    go_wp2_with fail
    refine HV.out.mono ?_
    rintro e w2 ⟨rfl,h2⟩
    obtain⟨k0,k1,-,-⟩:=jL h2
    have H2:=ah h2
    clear h2 HV
    rw[HD.out]
    go_wp2
    go_ret
    exact⟨by rw[HVV.out,decide_eq_true c1,decide_eq_true c2];simp,H2.out.drop⟩
set_option maxRecDepth 100000 in
set_option maxHeartbeats 1000000 in
theorem DX {W w:World} {A:aB} (n d:Int) (o i:Bool) (hB:Qu ⟨n,d⟩) (h:Sat W w A):
 Calls Tryz.prog 226 #[.agg #[.int .i64 n,.int .i64 d],.bool o,.bool i] w fun e w'=>e=.returned (.bool (sO ⟨n,d⟩ o i))∧Sat W w' A:=by
 have h1:=h.gu (.cells #[.int .i64 n,.int .i64 d] 26)
 obtain⟨w1,hw1⟩:=aC (w.alloc (.cells #[.int .i64 n,.int .i64 d] 26))
 obtain⟨rv,dJ⟩:=aC (sO ⟨n,d⟩ o i)
 have HS:=ah (Iz n d hB h1)
 have H1:=ah h1
 rw[←dJ]
 have bI:=ah dJ
 have hn1:∀w0,(binOp .eql 26 (.agg #[.int .i64 n,.int .i64 d]) (.agg #[.int .i64 0,.int .i64 0])).run Tryz.prog w0=.ok (.bool (n==0&&d==0)) w0:=fun w0=>FB w0 n d 0 0
 clear dJ hB h h1 hw1
 cases i with
 | false=>
  go_enter Tryz.func226,Tryz.ntmps226
  go_wp2_with fail
  refine HS.out.mono ?_
  rintro e w2 ⟨rfl,h2⟩
  have H2:=ah h2
  clear h2 HS
  go_wp2
  go_ret
  exact⟨by rw[bI.out];rfl,H2.out⟩
 | true=>
  obtain⟨z,hz⟩:=aC ((n==0&&d==0))
  rw[←hz] at hn1
  have HZ:Hid (rv=(z&&!o)):=ah (by rw[bI.out,hz];rfl)
  clear hz bI HS
  cases z
  all_goals
   go_enter Tryz.func226,Tryz.ntmps226
   go_wp2
   go_ret
   exact⟨by rw[HZ.out];rfl,H1.out⟩
end Go.Proofs.YthfmaclnccdcbaaGreatDoor
