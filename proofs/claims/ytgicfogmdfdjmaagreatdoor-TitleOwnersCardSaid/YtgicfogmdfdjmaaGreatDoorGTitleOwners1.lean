/- Part of a proof. -/
import Derived.Test.YtgicfogmdfdjmaaGreatDoorGTitleOwners0
import Derived.Lib.ConvBytes
import Derived.Lib.Varint
import Derived.Lib.Zigzag
import Derived.Lib.EndianBits
import Derived.Laws.Bits64
import Derived.Test.YtgicfogmdfdjmaaGreatDoorProg
import Derived.Deep.DeepCutAuto
import Derived.Test.YtgicfogmdfdjmaaGreatDoorRows
import Derived.Laws.StructEq
import Derived.Maps.RangeWalk
namespace PA
open Go Go.RowKit
def kn (I:Mem):aH:=JZ (Mem.le I) fun _ _ hl h b o hb=>hl _ _ (h b o hb)
def Ext (I:Mem) (w:World):Prop:=∀b o,I b=some o→w.heap[b]?=some o
section
variable {W w w':World} {A:aH} {I J:Mem}
theorem Sat.ext (h:Sat W w (sep (kn I) A)):Ext I w:=h.DT
theorem Sat.know (h:Sat W w A):∃I,Sat W w (sep (kn I) A):=by
 obtain⟨h1,h2,h3,I,m,h4,h5,h6,h7⟩:=h
 exact⟨I,h1,h2,h3,I,m,h4,h5,h6,Mem.no,m,fun _=>.inl rfl,(Mem.pW _).symm,⟨rfl,Mem.le_refl I⟩,h7⟩
theorem Sat.learn {p:Mem→Prop} {hp:∀I J,Mem.le I J→p I→p J} (h:Sat W w (sep (JZ p hp) (sep (kn I) A))):∃J,Mem.le I J∧p J∧Sat W w (sep (kn J) A):=by
 obtain⟨h1,h2,h3,J,m,h4,h5,h6,x,y,h7,rfl,⟨rfl,hp'⟩,x',y',h8,rfl,⟨rfl,hle⟩,h9⟩:=h
 refine⟨J,hle,hp',h1,h2,h3,J,_,h4,h5,h6,Mem.no,y',fun _=>.inl rfl,?_,⟨rfl,Mem.le_refl J⟩,h9⟩
 rw[Mem.pW]
theorem Sat.dK (h:Sat W w (sep (kn J) A)) (hle:Mem.le I J):Sat W w (sep (kn I) A):=by
 refine h.wk ?_
 rintro K m ⟨x,y,h7,rfl,⟨rfl,hle'⟩,h9⟩
 exact⟨Mem.no,y,fun _=>.inl rfl,rfl,⟨rfl,fun b o hb=>hle' _ _ (hle _ _ hb)⟩,h9⟩
theorem Mem.le_trans {I J K:Mem} (h:Mem.le I J) (k:Mem.le J K):Mem.le I K:=fun _ _ hb=>k _ _ (h _ _ hb)
theorem fP {a:Option Addr} {xs:List Value} (h:bT a xs I) (hne:xs≠[]):∃b o,a=some ⟨b,o,none⟩∧∀w',Ext I w'→∀i u,xs[i]?=some u→w'.cell? ⟨b,o+i,none⟩=some u:=by
 rcases h with h|⟨b,o,cs,t,f,h1,h2,h3⟩
 ·exact absurd h hne
 ·exact⟨b,o,h1,fun w' he i u hu=>by rw[cell_of_row w' b (o+i) cs t f (he _ _ h2)];exact h3 i u hu⟩
theorem fQ {a:Option Addr} {xs:List Value} (hl:Mem.le I J) (h:bT a xs I):bT a xs J:=by
 rcases h with h|⟨b,o,cs,t,f,h1,h2,h3⟩
 ·exact .inl h
 ·exact .inr ⟨b,o,cs,t,f,h1,hl _ _ h2,h3⟩
theorem wR {v:Value} {bs:List UInt8}:eP.rel I [v] bs↔∃a c,v=.slice a bs.length c∧Cb a bs.length c∧bT a (bs.map bv) I:=by
 constructor
 ·rintro⟨a,c,cells,h1,h2,h3,h4⟩
  cases h1
  rw[(tY _ _ _).1 h4] at h3
  exact⟨a,c,rfl,h2,h3⟩
 ·rintro⟨a,c,rfl,h2,h3⟩
  exact⟨a,c,_,rfl,h2,h3,(tY _ _ _).2 rfl⟩
end
theorem fE (w:World) (cs:List Value) (t:TypeId):∀j u,cs[j]?=some u→(w.alloc (.cells cs.toArray t)).cell? ((⟨w.heap.size,0,none⟩:Addr).add j)=some u:=by
 intro j u h
 have:(⟨w.heap.size,0,none⟩:Addr).add j=⟨w.heap.size,j,none⟩:=by unfold Addr.add;split<;>simp_all
 rw[this,World.cell?_alloc_new]
 simpa using h
theorem Uo {w:World} {b:Addr} {xs:List Value} (h:∀j u,xs[j]?=some u→w.cell? (b.add j)=some u) (o:Obj):∀j u,xs[j]?=some u→(w.alloc o).cell? (b.add j)=some u:=by
 intro j u hu
 have:=h j u hu
 rw[World.cell?_alloc_lt w o _ (World.block_lt_of_cell? w _ this)]
 exact this
theorem Qx (bs:List UInt8):∀u∈bs.map bv,u.oneCell'=true:=by
 intro u hu
 obtain⟨b,_,rfl⟩:=List.mem_map.1 hu
 rfl
theorem uS {I:Mem} {w:World} {a:Option Addr} {xs:List Value} (h:bT a xs I) (he:Ext I w):∀b,a=some b→∀j u,xs[j]?=some u→w.cell? (b.add j)=some u:=by
 intro b hb j u hu
 obtain⟨b',o,e,hc⟩:=fP h (fun e=>by rw[e] at hu;simp at hu)
 rw[hb] at e;cases e
 have:=hc w he j u hu
 unfold Addr.add
 split
 ·rename_i e;subst e;simpa using this
 ·exact this
end PA
namespace PA
open Go
abbrev U64:={ x:Nat // x<18446744073709551616 }
end PA
namespace PA
open Go
structure Rt where
 n:Int
 d:Int
 deriving DecidableEq
def jX:Nat:=1099511627776
def jY:Nat:=1048576
def jW (neg:Bool) (n d:Nat):Rt×Int:=
 if jX<n / Nat.gcd n d∨jY<d / Nat.gcd n d then (⟨0,0⟩,5)
 else (⟨if neg=true then -((n / Nat.gcd n d:Nat):Int) else ((n / Nat.gcd n d:Nat):Int),((d / Nat.gcd n d:Nat):Int)⟩,0)
def newR (num den:Int):Rt×Int:=
 if den=0 then (⟨0,0⟩,1) else jW (decide (num<0) !=decide (den<0)) num.natAbs den.natAbs
def okR (r:Rt):Bool:=decide (1≤r.d)&&decide (newR r.n r.d=(r,0))
def jh (a b:Rt):Rt×Int:=if okR a=true∧okR b=true then newR (a.n*b.d+b.n*a.d) (a.d*b.d) else (⟨0,0⟩,1)
def negR (a:Rt):Rt:=⟨-a.n,a.d⟩
def uh (a b:Rt):Rt×Int:=jh a (negR b)
theorem xB {neg:Bool} {n d:Nat} {r:Rt} (h:jW neg n d=(r,0)):r.n.natAbs=n / Nat.gcd n d∧r.d=((d / Nat.gcd n d:Nat):Int)∧n / Nat.gcd n d≤jX∧d / Nat.gcd n d≤jY:=by
 unfold jW at h
 split at h
 ·cases h
 ·rename_i h'
  have h1:n / Nat.gcd n d≤jX:=by
   rcases Nat.lt_or_ge jX (n / Nat.gcd n d) with h2|h2
   ·exact absurd (.inl h2) h'
   ·exact h2
  have h2:d / Nat.gcd n d≤jY:=by
   rcases Nat.lt_or_ge jY (d / Nat.gcd n d) with h2|h2
   ·exact absurd (.inr h2) h'
   ·exact h2
  obtain⟨rfl⟩:=(Prod.mk.inj h).1
  refine⟨?_,rfl,h1,h2⟩
  show Int.natAbs (if neg=true then -((n / Nat.gcd n d:Nat):Int) else ((n / Nat.gcd n d:Nat):Int))=_
  by_cases e:neg=true
  ·rw[if_pos e,Int.natAbs_neg,Int.natAbs_natCast]
  ·rw[if_neg e,Int.natAbs_natCast]
structure Rok (r:Rt):Prop where
 d1:1≤r.d
 d2:r.d≤1048576
 n1:-1099511627776≤r.n
 n2:r.n≤1099511627776
theorem FC {n d:Int} {r:Rt} (h:newR n d=(r,0)) (hd:0<d):Rok r∧(r.n=0↔n=0)∧(0<r.n↔0<n):=by
 unfold newR at h
 rw[if_neg (by omega)] at h
 have h0:=h
 obtain⟨h1,h2,h3,h4⟩:=xB h
 unfold jX at h3
 unfold jY at h4
 have hg:0<Nat.gcd n.natAbs d.natAbs:=Nat.gcd_pos_of_pos_right _ (by omega)
 have hdv:0<d.natAbs / Nat.gcd n.natAbs d.natAbs:=Nat.div_pos (Nat.le_of_dvd (by omega) (Nat.gcd_dvd_right _ _)) hg
 have hz:n.natAbs / Nat.gcd n.natAbs d.natAbs=0↔n.natAbs=0:=by
  constructor
  ·intro e
   rcases (Nat.div_eq_zero_iff).1 e with e|e
   ·omega
   ·rcases Nat.eq_zero_or_pos n.natAbs with h|h
    ·exact h
    ·have:=Nat.le_of_dvd h (Nat.gcd_dvd_left n.natAbs d.natAbs);omega
  ·intro e;rw[e];simp
 refine⟨⟨by omega,by omega,by omega,by omega⟩,by omega,?_⟩
 unfold jW at h0
 split at h0
 ·cases h0
 ·have e:=(Prod.mk.inj h0).1
  have hd':decide (d<0)=false:=decide_eq_false (by omega)
  rw[hd'] at e
  subst e
  by_cases hn:n<0
  ·simp only[hn,decide_true]
   simp
   omega
  ·simp only[hn,decide_false]
   simp
   constructor
   ·intro h
    have:n.natAbs≠0:=fun e=>by rw[e] at h;simp at h
    omega
   ·intro h
    have:=hz
    omega
theorem dH {r:Rt} (h:okR r=true):Rok r∧newR r.n r.d=(r,0):=by
 simp only[okR,Bool.and_eq_true,decide_eq_true_eq] at h
 exact⟨(FC h.2 (by omega)).1,h.2⟩
theorem IV (n d:Int) (hd:0<d) (hdn:okR ⟨n,d⟩=true):Nat.gcd n.natAbs d.natAbs=1:=by
 have h:=(dH hdn).2
 unfold newR at h
 rw[if_neg (by show ¬d=0;omega)] at h
 obtain⟨-,h2,-,-⟩:=xB h
 have h2':d=((d.natAbs / Nat.gcd n.natAbs d.natAbs:Nat):Int):=h2
 rcases Nat.lt_or_ge 1 (Nat.gcd n.natAbs d.natAbs) with h3|h3
 ·have:=Nat.div_lt_self (n:=d.natAbs) (by omega) h3
  omega
 ·have:0<Nat.gcd n.natAbs d.natAbs:=Nat.gcd_pos_of_pos_right _ (by omega)
  omega
theorem KJ {n d:Int} {r:Rt} (h:newR n d=(r,0)) (hd:0<d):okR r=true:=by
 obtain⟨hr,hz,hp⟩:=FC h hd
 have h':=h
 unfold newR at h
 rw[if_neg (by omega)] at h
 obtain⟨h1,h2,h3,h4⟩:=xB h
 have hg:0<Nat.gcd n.natAbs d.natAbs:=Nat.gcd_pos_of_pos_right _ (by omega)
 have hco:Nat.gcd r.n.natAbs r.d.natAbs=1:=by
  rw[h1,h2,Int.natAbs_natCast]
  rw[Nat.gcd_div (Nat.gcd_dvd_left _ _) (Nat.gcd_dvd_right _ _),Nat.div_self hg]
 simp only[okR,Bool.and_eq_true,decide_eq_true_eq]
 refine⟨hr.d1,?_⟩
 unfold newR jW
 rw[if_neg (by have:=hr.d1;omega),hco,Nat.div_one,Nat.div_one,if_neg]
 ·have hdd:decide (r.d<0)=false:=decide_eq_false (by have:=hr.d1;omega)
  rw[hdd]
  refine congrArg (·,(0:Int)) ?_
  cases r with
  | mk rn rd=>
   simp only at *
   by_cases hn:rn<0
   ·simp only[hn,decide_true]
    simp
    exact⟨by omega,by have:=hr.d1;simp at this;omega⟩
   ·simp only[hn,decide_false]
    simp
    exact⟨by omega,by have:=hr.d1;simp at this;omega⟩
 ·rw[h1,h2,Int.natAbs_natCast]
  omega
theorem lZ (n d:Int) (h1:1≤d) (h2:d≤1048576) (h3:n.natAbs≤1099511627776) (h4:Nat.gcd n.natAbs d.natAbs=1):okR ⟨n,d⟩=true:=by
 simp only[okR,Bool.and_eq_true,decide_eq_true_eq]
 refine⟨h1,?_⟩
 unfold newR jW
 rw[if_neg (by omega),h4,Nat.div_one,Nat.div_one,if_neg]
 ·have hdd:decide (d<0)=false:=decide_eq_false (by omega)
  rw[hdd]
  refine congrArg (·,(0:Int)) ?_
  by_cases hn:n<0
  ·simp only[hn,decide_true]
   simp
   exact⟨by omega,by omega⟩
  ·simp only[hn,decide_false]
   simp
   exact⟨by omega,by omega⟩
 ·unfold jX jY
  omega
theorem UY {r:Rt} (h:okR r=true):okR (negR r)=true:=by
 have h1:=(dH h).1
 have hc:=IV r.n r.d (by have:=h1.d1;omega) h
 exact lZ _ _ h1.d1 h1.d2 (by have:=h1.n1;have:=h1.n2;omega) (by rw[Int.natAbs_neg];exact hc)
theorem AP {a b r:Rt} (h:jh a b=(r,0)):okR r=true∧okR a=true∧okR b=true:=by
 unfold jh at h
 split at h
 ·rename_i hh
  have ha:=(dH hh.1).1
  have hb:=(dH hh.2).1
  exact⟨KJ h (Int.mul_pos (by have:=ha.d1;omega) (by have:=hb.d1;omega)),hh.1,hh.2⟩
 ·cases h
end PA
namespace Go.Proofs.YtgicfogmdfdjmaaGreatDoor
open Go.RowKit PA
set_option maxHeartbeats 1000000 in
theorem QM {W w:World} {A:aH} (a b:Nat) (ha:a<18446744073709551616) (hb:b<18446744073709551616) (h:Sat W w A):
 Calls Tryz.prog 127 #[.int .u64 a,.int .u64 b] w fun e w'=>e=.returned (.int .u64 (Nat.gcd a b:Nat))∧Sat W w' A:=by
 obtain⟨g,hg⟩:=aG (Nat.gcd a b)
 rw[←hg]
 have HG:=ah hg
 clear hg
 go_enter Tryz.func127,Tryz.ntmps127
 go_wp2
 go_loopw [0,1] (fun av bv wr=>∃x y:Nat,av=.int .u64 x∧bv=.int .u64 y∧x<18446744073709551616∧y<18446744073709551616∧Nat.gcd x y=g∧Sat W wr A) (fun _ bv _=>(intOf bv).toNat)
 case atStart=>exact⟨a,b,rfl,rfl,ha,hb,HG.out.symm,h⟩
 case round=>
  obtain⟨x,y,rfl,rfl,hx,hy,hxy,hS⟩:=hrel
  have TR:=ah hxy
  clear hxy
  by_cases h0:0<y
  ·have h0I:(0:Int)<y:=by omega
   have hy0:¬y=0:=by omega
   obtain⟨z,hz⟩:=aG (x % y)
   have hm:(x:Int).tmod (y:Int)=(z:Int):=by rw[hz,Int.tmod_eq_emod_of_nonneg (by omega)];omega
   have hm2:z<y:=by rw[hz];exact Nat.mod_lt _ h0
   have HZ:=ah hz
   clear hz
   go_wp2
   refine aB rfl (fun _=>True) [(0,.p),(1,.p),(2,.p),(3,.p),(4,.p),(5,.p)] (by kernel_rfl) ?_
   have hS0:True:=trivial
   (repeat ((first|(refine eX (v:=?_) rfl rfl (fun w'=>?_) ?_;rotate_left;(go_simp;with_reducible rfl))|(refine eY (v:=?_) rfl rfl hS0 (fun w' hS=>?_) ?_;rotate_left;((try dsimp only at hS);go_simp;with_reducible rfl))|(refine fA (v:=?_) rfl rfl ?_ ?_;rotate_left;(go_simp;with_reducible rfl))|(refine bH rfl rfl ?_)|(refine bI rfl rfl hS0 ?_)|(refine bJ rfl rfl ?_));simp only[Act.put,lsA,lsB,bK]))
   refine bM ?_
   go_wp2
   go_roundw
   case rel=>exact⟨y,z,rfl,rfl,hy,by omega,by rw[HZ.out,←TR.out,Nat.gcd_comm y,←Nat.gcd_rec,Nat.gcd_comm],hS.drew⟩
   case measure=>simp[intOf];omega
  ·obtain rfl:y=0:=by omega
   go_wp2
   go_ret
   exact⟨by rw[←TR.out];simp,hS⟩
theorem DZ (n:Int) (h1:-9223372036854775808≤n) (h2:n≤9223372036854775807) (w:World):
 Calls Tryz.prog 91 #[.int .i64 n] w fun e w'=>e=.returned (.int .u64 (n.natAbs:Nat))∧w=w':=by
 by_cases hn:n<0
 ·have e1:IntKind.u64.wrap n=n+18446744073709551616:=by rw[IntKind.wrap_u64];omega
  have e2:IntKind.u64.wrap (-(n+18446744073709551616))=(n.natAbs:Int):=by rw[IntKind.wrap_u64];omega
  go_enter Tryz.func91,Tryz.ntmps91
  go_wp2
  go_ret
  exact⟨rfl,rfl⟩
 ·have e1:IntKind.u64.wrap n=(n.natAbs:Int):=by rw[IntKind.wrap_u64];omega
  go_enter Tryz.func91,Tryz.ntmps91
  go_wp2
  go_ret
  exact⟨rfl,rfl⟩
theorem gQ {W w:World} {A:aH} {q:Nat} {u v:Value} {t:TypeId} (h:Sat W w (sep (blk q (.cells #[u,v] t (0,0))) A)):
 w.cell? ⟨q,0,none⟩=some u∧w.cell? ⟨q,1,none⟩=some v∧w.frozen? ⟨q,0,none⟩=false∧w.frozen? ⟨q,1,none⟩=false:=⟨h.cell 0,h.cell 1,h.aI 0,h.aI 1⟩
theorem fF {W w:World} {A:aH} {q:Nat} {u v:Value} {t:TypeId} (h:Sat W w (sep (blk q (.cells #[u,v] t (0,0))) A)) (x y:Value):
 Sat W ((w.setCell ⟨q,0,none⟩ x).setCell ⟨q,1,none⟩ y) (sep (blk q (.cells #[x,y] t (0,0))) A):=(h.setCell 0 x).setCell 1 y
set_option maxHeartbeats 1000000 in
theorem Kt {W w:World} {A:aH} (neg:Bool) (n d:Nat) (hn:n<18446744073709551616) (hd:d<18446744073709551616) (h0:0<d) (h:Sat W w A):
 Calls Tryz.prog 90 #[.bool neg,.int .u64 n,.int .u64 d] w fun e w'=>e=.returned (.tuple #[.agg #[.int .i64 (jW neg n d).1.n,.int .i64 (jW neg n d).1.d],.int .i64 (jW neg n d).2])∧Sat W w' A:=by
 obtain⟨g,hg⟩:=aG (Nat.gcd n d)
 have hg0:0<g:=by rw[hg];exact Nat.gcd_pos_of_pos_right _ h0
 have hg1:¬g=0:=by omega
 have hgl:g<18446744073709551616:=by rw[hg];exact Nat.lt_of_le_of_lt (Nat.gcd_le_right _ h0) hd
 obtain⟨x,hx⟩:=aG (n / g)
 obtain⟨y,hy⟩:=aG (d / g)
 have hxl:x≤n:=by rw[hx];exact Nat.div_le_self _ _
 have hyl:y≤d:=by rw[hy];exact Nat.div_le_self _ _
 have hdx:(n:Int).tdiv (g:Int)=(x:Int):=by rw[hx,Int.tdiv_eq_ediv_of_nonneg (by omega)];omega
 have hdy:(d:Int).tdiv (g:Int)=(y:Int):=by rw[hy,Int.tdiv_eq_ediv_of_nonneg (by omega)];omega
 have hgc:=fun w0 (A0:aH) (h0:Sat W w0 A0)=>QM n d hn hd h0
 rw[←hg] at hgc
 have hux:IntKind.u64.wrap (x:Int)=x:=IntWalk.u64_in _ (by omega)
 have huy:IntKind.u64.wrap (y:Int)=y:=IntWalk.u64_in _ (by omega)
 have eB:jW neg n d=if 1099511627776<x∨1048576<y then (⟨0,0⟩,5) else (⟨if neg=true then -(x:Int) else (x:Int),(y:Int)⟩,0):=by
  rw[hx,hy,hg];rfl
 have HGC:=ah hgc
 have EB:=ah eB
 have h1:=h.alloc (.cells #[.int .i64 0,.int .i64 0] 57)
 obtain⟨B,hB⟩:=aG (w.heap.size)
 rw[←hB] at h1
 clear hgc eB hg hx hy h
 go_enter Tryz.func90,Tryz.ntmps90
 go_wp2_with fail
 rw[←hB]
 refine (HGC.out _ _ h1).mono ?_
 rintro e w2 ⟨rfl,h2⟩
 clear h1 HGC hB
 go_wp2
 refine aB rfl (fun _=>True) [(0,.p),(1,.p),(2,.p),(3,.p),(4,.p),(5,.p),(6,.p),(7,.p)] (by kernel_rfl) ?_
 have hS0:True:=trivial
 (repeat ((first|(refine eX (v:=?_) rfl rfl (fun w'=>?_) ?_;rotate_left;(go_simp;with_reducible rfl))|(refine eY (v:=?_) rfl rfl hS0 (fun w' hS=>?_) ?_;rotate_left;((try dsimp only at hS);go_simp;with_reducible rfl))|(refine fA (v:=?_) rfl rfl ?_ ?_;rotate_left;(go_simp;with_reducible rfl))|(refine bH rfl rfl ?_)|(refine bI rfl rfl hS0 ?_)|(refine bJ rfl rfl ?_));simp only[Act.put,lsA,lsB,bK]))
 refine bM ?_
 clear hdx hdy hux huy
 have h3:=h2.drew
 obtain⟨w3,hw3⟩:=aG (w2.drew)
 rw[←hw3] at h3 ⊢
 clear hw3 h2
 have bad:(1099511627776<x∨1048576<y)→jW neg n d=(⟨0,0⟩,5):=fun hh=>by rw[EB.out,if_pos hh]
 have BAD:=ah bad
 clear bad
 by_cases c1:1099511627776<x
 ·have c1I:(1099511627776:Int)<x:=by omega
  obtain⟨k0,k1,k2,k3⟩:=gQ h3
  have h4:=fF h3 (.int .i64 0) (.int .i64 0)
  obtain⟨w4,hw4⟩:=aG ((w3.setCell ⟨B,0,none⟩ (.int .i64 0)).setCell ⟨B,1,none⟩ (.int .i64 0))
  rw[←hw4] at h4
  obtain⟨d0,d1,-,-⟩:=gQ h4
  have wH:=ah hw4
  clear hw4
  go_wp2
  rw[←wH.out]
  exact bodyPost_ret (v:=.tuple #[.agg #[.int .i64 0,.int .i64 0],.int .i64 5]) (by simp[results,Tryz.results90,go_sem,d0,d1]) rfl ⟨by rw[BAD.out (.inl c1)],h4.forget⟩
 ·have c1I:¬(1099511627776:Int)<x:=by omega
  by_cases c2:1048576<y
  ·have c2I:(1048576:Int)<y:=by omega
   obtain⟨k0,k1,k2,k3⟩:=gQ h3
   have h4:=fF h3 (.int .i64 0) (.int .i64 0)
   obtain⟨w4,hw4⟩:=aG ((w3.setCell ⟨B,0,none⟩ (.int .i64 0)).setCell ⟨B,1,none⟩ (.int .i64 0))
   rw[←hw4] at h4
   obtain⟨d0,d1,-,-⟩:=gQ h4
   have wH:=ah hw4
   clear hw4
   go_wp2
   rw[←wH.out]
   exact bodyPost_ret (v:=.tuple #[.agg #[.int .i64 0,.int .i64 0],.int .i64 5]) (by simp[results,Tryz.results90,go_sem,d0,d1]) rfl ⟨by rw[BAD.out (.inr c2)],h4.forget⟩
  ·have c2I:¬(1048576:Int)<y:=by omega
   have e1:IntKind.i64.wrap (x:Int)=x:=IntWalk.i64_in _ (by omega)
   have e2:IntKind.i64.wrap (y:Int)=y:=IntWalk.i64_in _ (by omega)
   have eB2:=EB.out
   rw[if_neg (by omega)] at eB2
   have EB2:=ah eB2
   have g1:=h3.alloc (.cells #[.int .i64 x,.int .i64 y] 57)
   obtain⟨C,hC⟩:=aG (w3.heap.size)
   obtain⟨w4,hw4⟩:=aG (w3.alloc (.cells #[.int .i64 x,.int .i64 y] 57))
   rw[←hC,←hw4] at g1
   have HC:=ah hC
   have wH:=ah hw4
   clear EB eB2 BAD hC hw4 h3
   go_upto_region 6 with (fail)
   rw[←HC.out,←wH.out]
   cases neg with
   | true=>
    have e3:IntKind.i64.wrap (-(x:Int))=-x:=IntWalk.i64_in _ (by omega)
    obtain⟨k0,k1,k2,k3⟩:=gQ g1
    have g2:=(g1.setCell 0 (.int .i64 (-(x:Int)))).p1
    obtain⟨w5,hw5⟩:=aG (w4.setCell ⟨C,0,none⟩ (.int .i64 (-(x:Int))))
    rw[←hw5] at g2
    have XP:=ah hw5
    clear hw5 g1
    go_upto_region 8 with (fail)
    clear k0 k1 k2 k3
    rw[←XP.out]
    obtain⟨k0,k1,-,-⟩:=gQ g2.p1
    obtain⟨b0,b1,b2,b3⟩:=gQ g2
    have g3:=fF g2 (.int .i64 (-(x:Int))) (.int .i64 y)
    obtain⟨w6,hw6⟩:=aG ((w5.setCell ⟨B,0,none⟩ (.int .i64 (-(x:Int)))).setCell ⟨B,1,none⟩ (.int .i64 y))
    rw[←hw6] at g3
    obtain⟨d0,d1,-,-⟩:=gQ g3
    have XQ:=ah hw6
    clear hw6
    go_wp2
    rw[←XQ.out]
    exact bodyPost_ret (v:=.tuple #[.agg #[.int .i64 (-(x:Int)),.int .i64 y],.int .i64 0]) (by simp[results,Tryz.results90,go_sem,d0,d1]) rfl ⟨by rw[EB2.out];rfl,g3.forget.forget⟩
   | false=>
    obtain⟨k0,k1,-,-⟩:=gQ g1
    obtain⟨b0,b1,b2,b3⟩:=gQ g1.p1
    have g3:=fF g1.p1 (.int .i64 x) (.int .i64 y)
    obtain⟨w6,hw6⟩:=aG ((w4.setCell ⟨B,0,none⟩ (.int .i64 x)).setCell ⟨B,1,none⟩ (.int .i64 y))
    rw[←hw6] at g3
    obtain⟨d0,d1,-,-⟩:=gQ g3
    have XQ:=ah hw6
    clear hw6
    go_wp2
    rw[←XQ.out]
    exact bodyPost_ret (v:=.tuple #[.agg #[.int .i64 x,.int .i64 y],.int .i64 0]) (by simp[results,Tryz.results90,go_sem,d0,d1]) rfl ⟨by rw[EB2.out];rfl,g3.forget.forget⟩
end Go.Proofs.YtgicfogmdfdjmaaGreatDoor
namespace Go.Proofs.YtgicfogmdfdjmaaGreatDoor
open Go.RowKit PA
def QN (r:Rt):Value:=.agg #[.int .i64 r.n,.int .i64 r.d]
def eF (r:Rt×Int):Value:=.tuple #[.agg #[.int .i64 r.1.n,.int .i64 r.1.d],.int .i64 r.2]
set_option maxHeartbeats 1000000 in
theorem Il {W w:World} {A:aH} (n d:Int) (hn1:-9223372036854775808≤n) (hn2:n≤9223372036854775807) (hd1:-9223372036854775808≤d) (hd2:d≤9223372036854775807) (h:Sat W w A):
 Calls Tryz.prog 71 #[.int .i64 n,.int .i64 d] w fun e w'=>e=.returned (eF (newR n d))∧Sat W w' A:=by
 obtain⟨r,hr⟩:=aG (newR n d)
 rw[←hr]
 have HR:=ah hr
 have h1:=h.alloc (.cells #[.int .i64 0,.int .i64 0] 57)
 obtain⟨B,hB⟩:=aG (w.heap.size)
 obtain⟨w1,hw1⟩:=aG (w.alloc (.cells #[.int .i64 0,.int .i64 0] 57))
 rw[←hB,←hw1] at h1
 have HB:=ah hB
 have HW1:=ah hw1
 clear hB hw1 h hr
 go_enter Tryz.func71,Tryz.ntmps71
 go_upto_region 1 with (fail)
 rw[←HB.out,←HW1.out]
 by_cases h0:d=0
 ·subst h0
  obtain⟨k0,k1,k2,k3⟩:=gQ h1
  have h4:=fF h1 (.int .i64 0) (.int .i64 0)
  obtain⟨w4,hw4⟩:=aG ((w1.setCell ⟨B,0,none⟩ (.int .i64 0)).setCell ⟨B,1,none⟩ (.int .i64 0))
  rw[←hw4] at h4
  obtain⟨d0,d1,-,-⟩:=gQ h4
  have wH:=ah hw4
  clear hw4
  go_wp2
  rw[←wH.out]
  exact bodyPost_ret (v:=.tuple #[.agg #[.int .i64 0,.int .i64 0],.int .i64 1]) (by simp[results,Tryz.results71,go_sem,d0,d1]) rfl ⟨by rw[HR.out];rfl,h4.forget⟩
 ·obtain⟨neg,hneg⟩:∃neg,(!(decide (n<0)==decide (d<0)))=neg:=⟨_,rfl⟩
  have eN:jW neg n.natAbs d.natAbs=r:=by rw[HR.out];unfold newR;rw[if_neg h0,←hneg];rfl
  have hs1:=fun w0=>DZ n hn1 hn2 w0
  have hs2:=fun w0=>DZ d hd1 hd2 w0
  have hb:=fun w0 (A0:aH) (hh:Sat W w0 A0)=>Kt neg n.natAbs d.natAbs (by omega) (by omega) (by omega) hh
  rw[eN] at hb
  obtain⟨a1,ha1⟩:=aG (n.natAbs)
  obtain⟨a2,ha2⟩:=aG (d.natAbs)
  rw[←ha1] at hs1 hb
  rw[←ha2] at hs2 hb
  have Qd:=ah hs1
  have HS2:=ah hs2
  have sD:=ah hb
  clear hs1 hs2 hb ha1 ha2 eN HR
  go_wp2_with fail
  refine (Qd.out _).mono ?_
  rintro e w2 ⟨rfl,rfl⟩
  go_wp2_with fail
  refine (HS2.out _).mono ?_
  rintro e w2 ⟨rfl,rfl⟩
  clear Qd HS2
  go_wp2_with fail
  refine (sD.out _ _ h1).mono ?_
  rintro e w2 ⟨rfl,h2⟩
  obtain⟨⟨rn,rd⟩,re⟩:=r
  clear sD h1 hneg
  obtain⟨k0,k1,k2,k3⟩:=gQ h2
  have h4:=fF h2 (.int .i64 rn) (.int .i64 rd)
  obtain⟨w4,hw4⟩:=aG ((w2.setCell ⟨B,0,none⟩ (.int .i64 rn)).setCell ⟨B,1,none⟩ (.int .i64 rd))
  rw[←hw4] at h4
  obtain⟨d0,d1,-,-⟩:=gQ h4
  have wH:=ah hw4
  clear hw4
  go_wp2
  rw[←wH.out]
  exact bodyPost_ret (v:=.tuple #[.agg #[.int .i64 rn,.int .i64 rd],.int .i64 re]) (by simp[results,Tryz.results71,go_sem,d0,d1]) rfl ⟨rfl,h4.forget⟩
theorem Ku (w:World) (a b c d:Int):(binOp .neq 57 (.agg #[.int .i64 a,.int .i64 b]) (.agg #[.int .i64 c,.int .i64 d])).run Tryz.prog w=.ok (.bool (!(a==c&&b==d))) w:=by
 have h1:Tryz.prog.underlying 57=some (.struct (Tryz.prog.fieldsOf 57)):=by kernel_rfl
 have h2:Tryz.prog.stoodInHeld 57=false:=by kernel_rfl
 have e:=run_equalIn_struct (P:=Tryz.prog) w 9999 57 #[.int .i64 a,.int .i64 b] #[.int .i64 c,.int .i64 d] h1 h2
 rw[run_neq_struct,e]
 clear e
 have q0:∀a b:Int,(part 3 #[.int .i64 a,.int .i64 b] 0).run Tryz.prog w=.ok (.int .i64 a) w:=fun a b=>by kernel_rfl
 have q1:∀a b:Int,(part 3 #[.int .i64 a,.int .i64 b] 1).run Tryz.prog w=.ok (.int .i64 b) w:=fun a b=>by kernel_rfl
 have r0:∀a b:Int,(Op.equalIn 9999 3 (.int .i64 a) (.int .i64 b)).run Tryz.prog w=.ok (a==b) w:=fun a b=>run_equalIn_int (P:=Tryz.prog) w 9998 3 .i64 .i64 a b Tryz.underlying3
 by_cases e1:a=c
 ·by_cases e2:b=d
  ·simp[Program.fieldsOf,Tryz.underlying57,Op.eqFields,q0,q1,r0,e1,e2]
  ·simp[Program.fieldsOf,Tryz.underlying57,Op.eqFields,q0,q1,r0,e1,e2]
 ·simp[Program.fieldsOf,Tryz.underlying57,Op.eqFields,q0,r0,e1]
set_option maxHeartbeats 1000000 in
theorem yx {W w:World} {A:aH} (r:Rt) (hn1:-9223372036854775808≤r.n) (hn2:r.n≤9223372036854775807) (hd1:-9223372036854775808≤r.d) (hd2:r.d≤9223372036854775807) (h:Sat W w A):
 Calls Tryz.prog 89 #[.agg #[.int .i64 r.n,.int .i64 r.d]] w fun e w'=>e=.returned (.int .i64 (if okR r=true then 0 else 1))∧Sat W w' A:=by
 obtain⟨n,d⟩:=r
 simp only at hn1 hn2 hd1 hd2 ⊢
 obtain⟨ok,hok⟩:=aG (okR ⟨n,d⟩)
 rw[←hok]
 obtain⟨rv,gu⟩:∃rv:Int,rv=if ok=true then 0 else 1:=⟨_,rfl⟩
 rw[←gu]
 have jQ:=ah hok
 have dN:=ah gu
 have h1:=h.alloc (.cells #[.int .i64 n,.int .i64 d] 57)
 obtain⟨k0,k1,-,-⟩:=gQ h1
 clear hok gu h
 by_cases c1:d<1
 ·obtain rfl:ok=false:=by rw[jQ.out];unfold okR;rw[decide_eq_false (by show ¬1≤d;omega)];rfl
  go_enter Tryz.func89,Tryz.ntmps89
  go_wp2
  go_ret
  exact⟨by rw[dN.out];rfl,h1.forget⟩
 ·have hnew:=Il n d hn1 hn2 hd1 hd2 h1
  obtain⟨⟨⟨rn,rd⟩,re⟩,hr⟩:∃r,r=newR n d:=⟨_,rfl⟩
  rw[←hr] at hnew
  have hnew2:Calls Tryz.prog 71 #[.int .i64 n,.int .i64 d] (w.alloc (.cells #[.int .i64 n,.int .i64 d] 57)) fun e w'=>e=.returned (.tuple #[.agg #[.int .i64 rn,.int .i64 rd],.int .i64 re])∧Sat W w' (sep (blk w.heap.size (.cells #[.int .i64 n,.int .i64 d] 57)) A):=hnew
  have Io:=ah hnew2
  have HR:=ah hr
  clear hr hnew hnew2
  go_enter Tryz.func89,Tryz.ntmps89
  go_wp2_with fail
  refine Io.out.mono ?_
  rintro e w2 ⟨rfl,h2⟩
  clear k0 k1 h1 Io
  have h3:=h2.alloc (.cells #[.int .i64 rn,.int .i64 rd] 57)
  obtain⟨k0,k1,-,-⟩:=gQ h3
  obtain⟨j0,j1,-,-⟩:=gQ h3.p1
  obtain⟨C,hC⟩:=aG (w2.heap.size)
  obtain⟨B,hB⟩:=aG (w.heap.size)
  obtain⟨w3,hw3⟩:=aG (w2.alloc (.cells #[.int .i64 rn,.int .i64 rd] 57))
  rw[←hC,←hB,←hw3] at h3
  rw[←hC,←hw3] at k0 k1
  rw[←hB,←hw3] at j0 j1
  have HC:=ah hC
  have HB:=ah hB
  have HW3:=ah hw3
  have h4:=h3.forget.forget
  clear hC hB hw3 h2 h3
  go_upto_region 4 with (fail)
  rw[←HC.out,←HB.out,←HW3.out]
  have hg:=fun w0=>Ku w0 rn rd n d
  by_cases c2:re=0
  ·subst c2
   obtain⟨eq,heq⟩:=aG (!(rn==n&&rd==d))
   rw[←heq] at hg
   have hko:ok=!eq:=by
    rw[jQ.out]
    unfold okR
    rw[←HR.out,decide_eq_true (show 1≤d by omega),heq]
    by_cases e1:rn=n
    ·by_cases e2:rd=d
     ·simp[e1,e2]
     ·simp[e1,e2]
    ·simp[e1]
   have YZ:=ah hko
   clear heq hko
   cases eq with
   | true=>
    go_wp2
    go_ret
    exact⟨by rw[dN.out,YZ.out];rfl,h4⟩
   | false=>
    go_wp2
    go_ret
    exact⟨by rw[dN.out,YZ.out];rfl,h4⟩
  ·obtain rfl:ok=false:=by
    rw[jQ.out]
    unfold okR
    rw[←HR.out]
    have:¬(((⟨rn,rd⟩:Rt),re)=(⟨n,d⟩,0)):=fun e=>c2 (Prod.mk.inj e).2
    rw[decide_eq_false this,Bool.and_false]
   have hz:(re !=0)=true:=by simp[c2]
   go_wp2
   go_ret
   exact⟨by rw[dN.out];rfl,h4⟩
structure Oo (r:Rt):Prop where
 n1:-9223372036854775808≤r.n
 n2:r.n≤9223372036854775807
 d1:-9223372036854775808≤r.d
 d2:r.d≤9223372036854775807
theorem Oo.of {r:Rt} (h:Rok r):Oo r:=⟨by have:=h.n1;omega,by have:=h.n2;omega,by have:=h.d1;omega,by have:=h.d2;omega⟩
set_option maxHeartbeats 1000000 in
theorem Ip {W w:World} {A:aH} (a b:Rt) (ha:Oo a) (hb:Oo b) (C:Nat) (h:Sat W w (sep (blk C (.cells #[.int .i64 a.n,.int .i64 a.d,.int .i64 b.n,.int .i64 b.d] 57 (0,0))) A)):
 Calls Tryz.prog 70 #[.slice (some ⟨C,0,none⟩) 2 2] w fun e w'=>e=.returned (.int .i64 (if okR a=true∧okR b=true then 0 else 1))∧Sat W w' A:=by
 obtain⟨rv,gu⟩:∃rv:Int,rv=if okR a=true∧okR b=true then 0 else 1:=⟨_,rfl⟩
 rw[←gu]
 have dN:=ah gu
 have HA:=fun w0 (A0:aH) (h0:Sat W w0 A0)=>yx a ha.n1 ha.n2 ha.d1 ha.d2 h0
 have HB:=fun w0 (A0:aH) (h0:Sat W w0 A0)=>yx b hb.n1 hb.n2 hb.d1 hb.d2 h0
 obtain⟨oa,hoa⟩:=aG (okR a)
 obtain⟨ob,hob⟩:=aG (okR b)
 rw[←hoa] at HA
 rw[←hob] at HB
 have Y0:=ah hoa
 have uP:=ah hob
 have HHA:=ah HA
 have HHB:=ah HB
 obtain⟨an,ad⟩:=a
 obtain⟨bn,bd⟩:=b
 clear gu hoa hob HA HB ha hb
 go_enter Tryz.func70,Tryz.ntmps70
 go_wp2
 go_loopw [8] (fun kv wr=>∃k:Nat,kv=.int .i64 k∧k≤2∧(1≤k→oa=true)∧(2≤k→ob=true)∧Sat W wr (sep (blk C (.cells #[.int .i64 an,.int .i64 ad,.int .i64 bn,.int .i64 bd] 57 (0,0))) A)) (fun kv _=>2-(intOf kv).toNat)
 case atStart=>exact⟨0,rfl,by omega,by omega,by omega,h⟩
 case round=>
  obtain⟨k,rfl,hk,q1,q2,hS⟩:=hrel
  have Q1:=ah q1
  have Q2:=ah q2
  clear q1 q2
  obtain rfl|rfl|rfl:k=0∨k=1∨k=2:=by omega
  ·have c0:wr.cell? ⟨C,0,none⟩=some (.int .i64 an):=hS.cell 0
   have c1:wr.cell? ⟨C,1,none⟩=some (.int .i64 ad):=hS.cell 1
   have h2:=hS.dM (.cells #[.int .i64 an,.int .i64 ad] 57)
   clear hS
   go_wp2_with fail
   refine (HHA.out _ _ h2).mono ?_
   rintro e w3 ⟨rfl,h3⟩
   clear c0 c1 h2
   cases oa with
   | true=>
    go_wp2_with fail
    go_roundw
    case rel=>exact⟨1,rfl,by omega,fun _=>(by first|rfl|trivial),by omega,h3⟩
    case measure=>simp[intOf]
   | false=>
    go_wp2_with fail
    go_ret
    exact⟨by rw[dN.out,if_neg (by rw[←Y0.out];simp)];rfl,h3.forget⟩
  ·have c0:wr.cell? ⟨C,2,none⟩=some (.int .i64 bn):=hS.cell 2
   have c1:wr.cell? ⟨C,3,none⟩=some (.int .i64 bd):=hS.cell 3
   have h2:=hS.dM (.cells #[.int .i64 bn,.int .i64 bd] 57)
   clear hS
   go_wp2_with fail
   refine (HHB.out _ _ h2).mono ?_
   rintro e w3 ⟨rfl,h3⟩
   clear c0 c1 h2
   cases ob with
   | true=>
    go_wp2_with fail
    go_roundw
    case rel=>exact⟨2,rfl,by omega,fun _=>Q1.out (by omega),fun _=>(by first|rfl|trivial),h3⟩
    case measure=>simp[intOf]
   | false=>
    go_wp2_with fail
    go_ret
    exact⟨by rw[dN.out,if_neg (by rw[←uP.out];simp)];rfl,h3.forget⟩
  ·go_wp2_with fail
   go_ret
   exact⟨by rw[dN.out,if_pos ⟨by rw[←Y0.out];exact Q1.out (by omega),by rw[←uP.out];exact Q2.out (by omega)⟩];rfl,hS.forget⟩
end Go.Proofs.YtgicfogmdfdjmaaGreatDoor
namespace Go.Proofs.YtgicfogmdfdjmaaGreatDoor
open Go.RowKit PA
theorem mW {a b:Int} (h1:-1099511627776≤a) (h2:a≤1099511627776) (h3:0≤b) (h4:b≤1048576):-1152921504606846976≤a*b∧a*b≤1152921504606846976:=by
 have e1:a*b≤1099511627776*b:=Int.mul_le_mul_of_nonneg_right h2 h3
 have e2:-1099511627776*b≤a*b:=Int.mul_le_mul_of_nonneg_right h1 h3
 omega
set_option maxHeartbeats 1000000 in
theorem Iq {W w:World} {A:aH} (a b:Rt) (ha:Oo a) (hb:Oo b) (h:Sat W w A):
 Calls Tryz.prog 56 #[.agg #[.int .i64 a.n,.int .i64 a.d],.agg #[.int .i64 b.n,.int .i64 b.d]] w fun e w'=>e=.returned (eF (jh a b))∧Sat W w' A:=by
 obtain⟨rs,hrs⟩:=aG (jh a b)
 rw[←hrs]
 have TT:=ah hrs
 have h1:=((h.alloc (.cells #[.int .i64 a.n,.int .i64 a.d] 57)).alloc (.cells #[.int .i64 b.n,.int .i64 b.d] 57)).alloc (.cells #[.int .i64 0,.int .i64 0] 57)
 obtain⟨B,hB⟩:=aG (w.heap.size)
 simp only[World.size_alloc,←hB] at h1
 obtain⟨w1,hw1⟩:=aG (((w.alloc (.cells #[.int .i64 a.n,.int .i64 a.d] 57)).alloc (.cells #[.int .i64 b.n,.int .i64 b.d] 57)).alloc (.cells #[.int .i64 0,.int .i64 0] 57))
 rw[←hw1] at h1
 have HV:=fun w0 (A0:aH) C (h0:Sat W w0 (sep (blk C (.cells #[.int .i64 a.n,.int .i64 a.d,.int .i64 b.n,.int .i64 b.d] 57 (0,0))) A0))=>Ip a b ha hb C h0
 obtain⟨ok,hok⟩:∃ok:Bool,ok=decide (okR a=true∧okR b=true):=⟨_,rfl⟩
 have hif:(if okR a=true∧okR b=true then (0:Int) else 1)=if ok=true then 0 else 1:=by
  rw[hok]
  by_cases hh:okR a=true∧okR b=true
  ·rw[if_pos hh,decide_eq_true hh,if_pos rfl]
  ·rw[if_neg hh,decide_eq_false hh,if_neg (by simp)]
 rw[hif] at HV
 have HB:=ah hB
 have HW1:=ah hw1
 have HHV:=ah HV
 have jQ:=ah hok
 have HBA:=ah ha
 have sD:=ah hb
 obtain⟨an,ad⟩:=a
 obtain⟨bn,bd⟩:=b
 clear hrs hB hw1 HV hif hok h ha hb
 go_enter Tryz.func56,Tryz.ntmps56
 go_upto_region 1 with (fail)
 simp only[←HB.out,←HW1.out]
 obtain⟨k0,k1,-,-⟩:=gQ h1.p1
 obtain⟨j0,j1,-,-⟩:=gQ h1.p2
 have h2:=h1.alloc (.cells #[.int .i64 an,.int .i64 ad,.int .i64 bn,.int .i64 bd] 57)
 go_wp2_with fail
 refine (HHV.out _ _ _ h2).mono ?_
 rintro e w3 ⟨rfl,h3⟩
 clear h2 h1 k0 k1 j0 j1 HHV
 cases ok with
 | false=>
  obtain⟨k0,k1,k2,k3⟩:=gQ h3
  have h4:=fF h3 (.int .i64 0) (.int .i64 0)
  obtain⟨w4,hw4⟩:=aG ((w3.setCell ⟨B+1+1,0,none⟩ (.int .i64 0)).setCell ⟨B+1+1,1,none⟩ (.int .i64 0))
  rw[←hw4] at h4
  obtain⟨d0,d1,-,-⟩:=gQ h4
  have wH:=ah hw4
  clear hw4
  go_wp2
  rw[←wH.out]
  exact bodyPost_ret (v:=.tuple #[.agg #[.int .i64 0,.int .i64 0],.int .i64 1]) (by simp[results,Tryz.results56,go_sem,d0,d1]) rfl ⟨by rw[TT.out];unfold jh;rw[if_neg (of_decide_eq_false jQ.out.symm)];rfl,h4.forget.forget.forget⟩
 | true=>
  have UQ:=of_decide_eq_true jQ.out.symm
  have r1:=(dH UQ.1).1
  have r2:=(dH UQ.2).1
  obtain⟨a1,a2,a3,a4⟩:=r1
  obtain⟨b1,b2,b3,b4⟩:=r2
  simp only at a1 a2 a3 a4 b1 b2 b3 b4
  have m1:=mW a3 a4 (show 0≤bd by omega) b2
  have m2:=mW b3 b4 (show 0≤ad by omega) a2
  have m3:=mW (show -1099511627776≤ad by omega) (show ad≤1099511627776 by omega) (show 0≤bd by omega) b2
  have heq:newR (an*bd+bn*ad) (ad*bd)=rs:=by rw[TT.out];unfold jh;rw[if_pos UQ]
  obtain⟨x,hx⟩:=aG (an*bd)
  obtain⟨y,hy⟩:=aG (bn*ad)
  obtain⟨z,hz⟩:=aG (ad*bd)
  rw[←hx] at m1
  rw[←hy] at m2
  rw[←hz] at m3
  rw[←hx,←hy,←hz] at heq
  have e1:IntKind.i64.wrap (an*bd)=x:=by rw[←hx];exact IntWalk.i64_in _ (by omega)
  have e2:IntKind.i64.wrap (bn*ad)=y:=by rw[←hy];exact IntWalk.i64_in _ (by omega)
  have e3:IntKind.i64.wrap (ad*bd)=z:=by rw[←hz];exact IntWalk.i64_in _ (by omega)
  have e4:IntKind.i64.wrap (x+y)=x+y:=IntWalk.i64_in _ (by omega)
  have hnew:=fun w0 (A0:aH) (h0:Sat W w0 A0)=>Il (x+y) z (by omega) (by omega) (by omega) (by omega) h0
  rw[heq] at hnew
  have Io:=ah hnew
  obtain⟨k0,k1,-,-⟩:=gQ h3.p1
  obtain⟨j0,j1,-,-⟩:=gQ h3.p2
  clear hnew heq hx hy hz m1 m2 m3 UQ a1 a2 a3 a4 b1 b2 b3 b4 TT jQ HBA sD
  go_wp2_with fail
  refine (Io.out _ _ h3).mono ?_
  rintro e w4 ⟨rfl,h4⟩
  clear e1 e2 e3 e4 k0 k1 j0 j1 h3 Io
  obtain⟨⟨rn,rd⟩,re⟩:=rs
  simp only[eF]
  obtain⟨k0,k1,k2,k3⟩:=gQ h4
  have h5:=fF h4 (.int .i64 rn) (.int .i64 rd)
  obtain⟨w5,hw5⟩:=aG ((w4.setCell ⟨B+1+1,0,none⟩ (.int .i64 rn)).setCell ⟨B+1+1,1,none⟩ (.int .i64 rd))
  rw[←hw5] at h5
  obtain⟨d0,d1,-,-⟩:=gQ h5
  have XP:=ah hw5
  clear hw5
  go_wp2
  rw[←XP.out]
  exact bodyPost_ret (v:=.tuple #[.agg #[.int .i64 rn,.int .i64 rd],.int .i64 re]) (by simp[results,Tryz.results56,go_sem,d0,d1]) rfl ⟨rfl,h5.forget.forget.forget⟩
set_option maxHeartbeats 1000000 in
theorem QO {W w:World} {A:aH} (a b:Rt) (ha:Oo a) (hb:Oo b) (hb2:Oo (negR b)) (h:Sat W w A):
 Calls Tryz.prog 55 #[.agg #[.int .i64 a.n,.int .i64 a.d],.agg #[.int .i64 b.n,.int .i64 b.d]] w fun e w'=>e=.returned (eF (uh a b))∧Sat W w' A:=by
 obtain⟨rs,hrs⟩:=aG (uh a b)
 rw[←hrs]
 have hadd:=fun w0 (A0:aH) (h0:Sat W w0 A0)=>Iq a (negR b) ha hb2 h0
 rw[show jh a (negR b)=rs from hrs.symm] at hadd
 have Ir:=ah hadd
 have h1:=((h.alloc (.cells #[.int .i64 a.n,.int .i64 a.d] 57)).alloc (.cells #[.int .i64 b.n,.int .i64 b.d] 57)).alloc (.cells #[.int .i64 0,.int .i64 0] 57)
 obtain⟨B,hB⟩:=aG (w.heap.size)
 simp only[World.size_alloc,←hB] at h1
 obtain⟨w1,hw1⟩:=aG (((w.alloc (.cells #[.int .i64 a.n,.int .i64 a.d] 57)).alloc (.cells #[.int .i64 b.n,.int .i64 b.d] 57)).alloc (.cells #[.int .i64 0,.int .i64 0] 57))
 rw[←hw1] at h1
 have HB:=ah hB
 have HW1:=ah hw1
 have en:IntKind.i64.wrap (-b.n)=-b.n:=IntWalk.i64_in _ ⟨hb2.n1,hb2.n2⟩
 obtain⟨an,ad⟩:=a
 obtain⟨bn,bd⟩:=b
 simp only at en
 have hs:=((h1.p1.setCell 0 (.int .i64 (-bn))))
 obtain⟨w2,hw2⟩:=aG (w1.setCell ⟨B+1,0,none⟩ (.int .i64 (-bn)))
 rw[←hw2] at hs
 have HW2:=ah hw2
 obtain⟨k0,k1,k2,k3⟩:=gQ h1.p1
 clear hrs hB hw1 h ha hb hb2 hadd hw2
 go_enter Tryz.func55,Tryz.ntmps55
 go_upto_region 1 with (fail)
 simp only[←HB.out,←HW1.out]
 go_upto_region 2 with (fail)
 clear k0 k1 k2 k3 en
 rw[←HW2.out]
 obtain⟨k0,k1,-,-⟩:=gQ hs
 obtain⟨j0,j1,-,-⟩:=gQ hs.p2
 go_wp2_with fail
 refine (Ir.out _ _ hs).mono ?_
 rintro e w4 ⟨rfl,h4⟩
 clear k0 k1 j0 j1 hs h1 Ir
 obtain⟨⟨rn,rd⟩,re⟩:=rs
 simp only[eF]
 obtain⟨k0,k1,k2,k3⟩:=gQ h4.p1
 have h5:=fF h4.p1 (.int .i64 rn) (.int .i64 rd)
 obtain⟨w5,hw5⟩:=aG ((w4.setCell ⟨B+1+1,0,none⟩ (.int .i64 rn)).setCell ⟨B+1+1,1,none⟩ (.int .i64 rd))
 rw[←hw5] at h5
 obtain⟨d0,d1,-,-⟩:=gQ h5
 have XP:=ah hw5
 clear hw5
 go_wp2
 rw[←XP.out]
 exact bodyPost_ret (v:=.tuple #[.agg #[.int .i64 rn,.int .i64 rd],.int .i64 re]) (by simp[results,Tryz.results55,go_sem,d0,d1]) rfl ⟨rfl,h5.forget.forget.forget⟩
end Go.Proofs.YtgicfogmdfdjmaaGreatDoor
namespace PA
open Go Go.RowKit
structure Sv where
 a:Option Addr
 n:Nat
 c:Nat
def Sv.v (s:Sv):Value:=.slice s.a s.n s.c
def Sv.none:Sv:=⟨.none,0,0⟩
structure Ac where
 k:Int
 d:Int
 n:Int
 f:Int
 o:Int
 p:Int
 q:Int
 u:Int
 m:Int
 sn:Int
 sd:Int
 td:Sv
 tc:Sv
 cl:Sv
 ea:Sv
 fo:Int
 fn:Int
 fi:Sv
 fk:Sv
def Ac.cells (x:Ac):List Value:=[.int .i64 x.k,.int .i64 x.d,.int .i64 x.n,.int .i64 x.f,.int .i64 x.o,.int .i64 x.p,.int .i64 x.q,.int .i64 x.u,.int .i64 x.m,.int .i64 x.sn,.int .i64 x.sd,
 .slice x.td.a x.td.n x.td.c,.slice x.tc.a x.tc.n x.tc.c,.slice x.cl.a x.cl.n x.cl.c,.slice x.ea.a x.ea.n x.ea.c,.int .i64 x.fo,.int .i64 x.fn,.slice x.fi.a x.fi.n x.fi.c,.slice x.fk.a x.fk.n x.fk.c]
theorem Ac.len (x:Ac):x.cells.length=19:=rfl
theorem Ac.one (x:Ac):∀u∈x.cells,u.oneCell'=true:=by
 intro u hu
 simp only[Ac.cells,List.mem_cons,List.not_mem_nil,or_false] at hu
 rcases hu with rfl|rfl|rfl|rfl|rfl|rfl|rfl|rfl|rfl|rfl|rfl|rfl|rfl|rfl|rfl|rfl|rfl|rfl|rfl<;>rfl
def Ac.sh (x:Ac):Rt:=⟨x.sn,x.sd⟩
def Ac.zero:Ac:=⟨0,0,0,0,0,0,0,0,0,0,0,Sv.none,Sv.none,Sv.none,Sv.none,0,0,Sv.none,Sv.none⟩
def bC (xs:List Ac):List Value:=xs.flatMap Ac.cells
theorem fC (xs:List Ac):(bC xs).length=xs.length*19:=by
 induction xs with
 | nil=>rfl
 | cons x xs ih=>rw[bC,List.flatMap_cons,List.length_append,←bC,ih,Ac.len,List.length_cons];omega
theorem fZ (xs ys:List Ac):bC (xs++ys)=bC xs++bC ys:=by simp[bC]
theorem uQ (xs:List Ac):∀u∈bC xs,u.oneCell'=true:=by
 intro u hu
 obtain⟨x,_,hx⟩:=List.mem_flatMap.1 hu
 exact x.one u hx
theorem wI (xs:List Ac) (i:Nat) (hi:i<xs.length) (j:Nat) (hj:j<19):(bC xs)[i*19+j]?=xs[i].cells[j]?:=by
 have e:xs=xs.take i++xs[i]::xs.drop (i+1):=by rw[←List.drop_eq_getElem_cons hi,List.take_append_drop]
 have hl:(bC (xs.take i)).length=i*19:=by rw[fC,List.length_take,Nat.min_eq_left (by omega)]
 conv=>lhs;rw[e]
 rw[fZ,List.getElem?_append_right (by omega),hl,Nat.add_sub_cancel_left]
 show (List.flatMap Ac.cells (xs[i]::xs.drop (i+1)))[j]?=_
 rw[List.flatMap_cons,List.getElem?_append_left (by rw[Ac.len];exact hj)]
def cmpK (x y:Ac):Int:=if x.d<y.d then -1 else if y.d<x.d then 1 else if x.n<y.n then -1 else if y.n<x.n then 1 else 0
def fH (x y:Ac):Prop:=x.d≠y.d∨x.n≠y.n
theorem fH.symm {x y:Ac} (h:fH x y):fH y x:=h.imp Ne.symm Ne.symm
theorem wJ (x y:Ac):cmpK y x=-cmpK x y:=by
 unfold cmpK
 repeat' split
 all_goals first|rfl|omega
theorem tH {x y z:Ac} (h1:cmpK x y≤0) (h2:cmpK y z≤0):cmpK x z≤0:=by
 unfold cmpK at *
 repeat' split
 all_goals first|omega|skip
 all_goals (repeat' split at h1)<;>(repeat' split at h2)<;>omega
def Asc (c:Ac→Ac→Int) (l:List Ac):Prop:=l.Pairwise fun x y=>c x y≤0
theorem zA {c:Ac→Ac→Int} (hne:∀x y,c x y≤0→c y x≤0→fH x y→False):∀(l m:List Ac),Asc c l→Asc c m→l.Perm m→l.Pairwise fH→l=m
 | [],m,_,_,hp,_=>(List.Perm.nil_eq hp)
 | x::l,[],_,_,hp,_=>absurd hp.length_eq (by simp)
 | x::l,y::m,h1,h2,hp,hk=>by
  have a1:=List.pairwise_cons.1 h1
  have a2:=List.pairwise_cons.1 h2
  have k1:=List.pairwise_cons.1 hk
  have hxy:x=y:=by
   have hx:x∈y::m:=hp.subset (by simp)
   have hy:y∈x::l:=hp.symm.subset (by simp)
   rcases List.mem_cons.1 hx with e|hx
   ·exact e
   ·rcases List.mem_cons.1 hy with e|hy
    ·exact e.symm
    ·exact False.elim (hne x y (a1.1 y hy) (a2.1 x hx) (k1.1 y hy))
  subst hxy
  rw[zA hne l m a1.2 a2.2 ((List.perm_cons x).1 hp) k1.2]
theorem Ul (x y:Ac) (h1:cmpK x y≤0) (h2:cmpK y x≤0) (h:fH x y):False:=by
 unfold cmpK at h1 h2
 unfold fH at h
 repeat' split at h1
 all_goals (repeat' split at h2)
 all_goals omega
theorem CO {R:Ac→Ac→Prop} (hs:∀x y,R x y→R y x) {l m:List Ac} (h:l.Perm m) (hl:l.Pairwise R):m.Pairwise R:=(List.Perm.pairwise_iff (fun h=>hs _ _ h) h).1 hl
end PA
namespace PA
open Go
abbrev lC:=Int→Option Rt
def aS (S:lC) (p:Int):Rt:=(S p).getD ⟨0,1⟩
def iQ (S:lC) (p:Int) (r:Rt):lC:=fun x=>if x=p then some r else S x
def kY (S:lC) (x:Ac):lC×Bool:=
 if (uh (aS S x.p) x.sh).2≠0∨(uh (aS S x.p) x.sh).1.n<0 then (S,false)
 else if (jh (aS S x.q) x.sh).2≠0 then (S,false)
 else (iQ (iQ S x.p (uh (aS S x.p) x.sh).1) x.q (jh (aS S x.q) x.sh).1,true)
def fV (k:Int):Bool:=!(decide (k=5)||decide (k=19)||decide (k=20)||decide (k=21))
def bg (file jd day:Int) (x:Ac):Bool:=fV x.k&&(decide (x.f=file)&&(decide (jd≤x.d)&&(decide (x.d≤day)&&(decide (x.k=16)||decide (x.k=17)))))
def stepT (S:lC) (x:Ac):lC×Bool:=if x.k=16 then kY S x else (S,decide (0<(aS S x.p).n))
def walkT {σ:Type} (file jd day:Int) (ev:σ→Nat→Ac→Bool→σ):Nat→List Ac→lC→σ→lC×σ
 | _,[],S,s=>(S,s)
 | i,x::l,S,s=>if bg file jd day x=true then walkT file jd day ev (i+1) l (stepT S x).1 (ev s i x (stepT S x).2) else walkT file jd day ev (i+1) l S s
def eG (file:Int) (x:Ac):Bool:=decide (x.k=0)&&decide (x.f=file)
def dP (file:Int) (S:List Ac):Option Ac:=S.find? (eG file)
def aP (file day:Int) (S:List Ac):Int:=
 if file<0∨4095<file∨day<0∨131072<day then 5 else match dP file S with
 | none=>7
 | some f=>if day<f.d then 7 else 0
def dI (p:Int):lC:=iQ (fun _=>none) p ⟨1,1⟩
def um (S:lC):Prop:=∀p r,S p=some r→okR r=true∧0≤r.n
theorem Vs:okR ⟨1,1⟩=true:=by decide
theorem Ru:okR ⟨0,1⟩=true:=by decide
theorem um.first (p:Int):um (dI p):=by
 intro q r h
 unfold dI iQ at h
 split at h
 ·cases h;exact⟨Vs,by decide⟩
 ·cases h
theorem um.share {S:lC} (h:um S) (p:Int):okR (aS S p)=true∧0≤(aS S p).n:=by
 unfold aS
 cases e:S p with
 | none=>exact⟨Ru,by decide⟩
 | some r=>exact h p r e
theorem Q5 {S:lC} (h:um S) (x:Ac) (hx:0≤x.sn):um (kY S x).1:=by
 unfold kY
 split
 ·exact h
 ·rename_i h1
  split
  ·exact h
  ·rename_i h2
   have a1:(uh (aS S x.p) x.sh).2=0:=by
    rcases Int.lt_trichotomy (uh (aS S x.p) x.sh).2 0 with e|e|e
    ·exact absurd (.inl (by omega)) h1
    ·exact e
    ·exact absurd (.inl (by omega)) h1
   have a2:0≤(uh (aS S x.p) x.sh).1.n:=by
    rcases Int.lt_or_le (uh (aS S x.p) x.sh).1.n 0 with e|e
    ·exact absurd (.inr e) h1
    ·exact e
   have a3:(jh (aS S x.q) x.sh).2=0:=by
    rcases Int.lt_trichotomy (jh (aS S x.q) x.sh).2 0 with e|e|e
    ·exact absurd (by omega) h2
    ·exact e
    ·exact absurd (by omega) h2
   intro p r hr
   replace hr:(if p=x.q then some (jh (aS S x.q) x.sh).1 else if p=x.p then some (uh (aS S x.p) x.sh).1 else S p)=some r:=hr
   split at hr
   ·cases hr
    have e:jh (aS S x.q) x.sh=((jh (aS S x.q) x.sh).1,0):=Prod.ext rfl a3
    have hv:=AP e
    refine⟨hv.1,?_⟩
    have hq:=h.share x.q
    obtain⟨r0,hr0⟩:=aG ((jh (aS S x.q) x.sh).1)
    rw[←hr0] at e ⊢
    have e2:newR ((aS S x.q).n*x.sh.d+x.sh.n*(aS S x.q).d) ((aS S x.q).d*x.sh.d)=(r0,0):=by
     rw[←e];unfold jh;rw[if_pos ⟨hv.2.1,hv.2.2⟩]
    have d1:=(dH hv.2.1).1.d1
    have d2:=(dH hv.2.2).1.d1
    have hn:=(FC e2 (Int.mul_pos (by omega) (by omega)))
    have hnum:0≤(aS S x.q).n*x.sh.d+x.sh.n*(aS S x.q).d:=Int.add_nonneg (Int.mul_nonneg hq.2 (by omega)) (Int.mul_nonneg hx (by omega))
    rcases Int.lt_trichotomy ((aS S x.q).n*x.sh.d+x.sh.n*(aS S x.q).d) 0 with z|z|z
    ·omega
    ·have:=hn.2.1.2 z;omega
    ·have:=hn.2.2.2 z;omega
   ·split at hr
    ·cases hr
     have e:uh (aS S x.p) x.sh=((uh (aS S x.p) x.sh).1,0):=Prod.ext rfl a1
     exact⟨(AP e).1,a2⟩
    ·exact h p r hr
theorem xC {σ τ:Type} (file jd day:Int) (ev:σ→Nat→Ac→Bool→σ) (ev':τ→Nat→Ac→Bool→τ):∀(l:List Ac) (i j:Nat) (S:lC) (s:σ) (t:τ),(walkT file jd day ev i l S s).1=(walkT file jd day ev' j l S t).1
 | [],_,_,_,_,_=>rfl
 | x::l,i,j,S,s,t=>by
  unfold walkT
  split
  ·exact xC file jd day ev ev' l _ _ _ _ _
  ·exact xC file jd day ev ev' l _ _ _ _ _
end PA
namespace PA
open Go Go.RowKit
structure Born (es:List MapEntry) (clock:Nat):Prop where
 lt:∀e∈es,e.born<clock
 nodup:(es.map (·.born)).Nodup
theorem Born.nil (c:Nat):Born [] c:=⟨fun _ h=>(by cases h),.nil⟩
theorem Me:∀{l:List MapEntry},(l.map (·.born)).Nodup→∀{x y:MapEntry},x∈l→y∈l→x.born=y.born→x=y
 | [],_,_,_,hx,_,_=>by cases hx
 | a::l,hn,x,y,hx,hy,h=>by
  rw[List.map_cons,List.nodup_cons] at hn
  rcases List.mem_cons.1 hx with rfl|hx'
  ·rcases List.mem_cons.1 hy with rfl|hy'
   ·rfl
   ·exact absurd (List.mem_map.2 ⟨y,hy',h.symm⟩) hn.1
  ·rcases List.mem_cons.1 hy with rfl|hy'
   ·exact absurd (List.mem_map.2 ⟨x,hx',h⟩) hn.1
   ·exact Me hn.2 hx' hy' h
theorem Born.push {es:List MapEntry} {c:Nat} (h:Born es c) (k v:Value):Born (es++[{ key:=k,val:=v,born:=c }]) (c+1):=by
 refine⟨fun e he=>?_,?_⟩
 ·rcases List.mem_append.1 he with he|he
  ·have:=h.lt e he;omega
  ·rw[List.mem_singleton.1 he];exact Nat.lt_succ_self c
 ·rw[List.map_append,List.map_cons,List.map_nil]
  refine List.nodup_append.2 ⟨h.nodup,by simp,fun x hx y hy=>?_⟩
  obtain⟨e,he,rfl⟩:=List.mem_map.1 hx
  rw[List.mem_singleton.1 hy]
  have h1:=h.lt e he
  show e.born≠c
  omega
theorem yg (es:List MapEntry) (j:Nat) (k v:Value):(es.modify j fun x=>{ x with key:=k,val:=v }).map (·.born)=es.map (·.born):=by
 apply List.ext_getElem
 ·simp
 ·intro i h1 h2
  simp only[List.getElem_map,List.getElem_modify]
  split<;>rfl
theorem Born.modify {es:List MapEntry} {c:Nat} (h:Born es c) (j:Nat) (k v:Value):Born (es.modify j fun x=>{ x with key:=k,val:=v }) c:=by
 refine⟨fun e he=>?_,by rw[yg];exact h.nodup⟩
 have:e.born∈(es.modify j fun x=>{ x with key:=k,val:=v }).map (·.born):=List.mem_map.2 ⟨e,he,rfl⟩
 rw[yg] at this
 obtain⟨e',he',e2⟩:=List.mem_map.1 this
 rw[←e2];exact h.lt e' he'
theorem Born.erase {es:List MapEntry} {c:Nat} (h:Born es c) (j:Nat):Born (es.eraseIdx j) c:=
 ⟨fun e he=>h.lt e ((List.eraseIdx_sublist es j).mem he),h.nodup.sublist ((List.eraseIdx_sublist es j).map _)⟩
def jO (b:Nat) (f:Int→Option Value) (n:Nat):aH:=ex fun s:Array MapEntry×Nat=>sep (fact (fJ s.1.toList f∧s.1.size=n∧Born s.1.toList s.2)) (blk b (.map s.1 s.2))
section
variable {P:Program} {W w:World} {A:aH}
theorem Sat.nS {b:Nat} {f:Int→Option Value} {n:Nat} (h:Sat W w (sep (jO b f n) A)):∃es clock,fJ es.toList f∧es.size=n∧Born es.toList clock∧Sat W w (sep (blk b (.map es clock)) A):=by
 rw[jO,dG,Sat.ex] at h
 obtain⟨⟨es,clock⟩,h⟩:=h
 rw[aj] at h
 have h':=Sat.fact.1 h
 exact⟨es,clock,h'.1.1,h'.1.2.1,h'.1.2.2,h'.2⟩
theorem Sat.ru {b:Nat} {f:Int→Option Value} {n:Nat} {es:Array MapEntry} {clock:Nat} (h:Sat W w (sep (blk b (.map es clock)) A)) (h1:fJ es.toList f) (h2:es.size=n) (h3:Born es.toList clock):Sat W w (sep (jO b f n) A):=by
 rw[jO,dG,Sat.ex]
 refine⟨(es,clock),?_⟩
 rw[aj]
 exact Sat.fact.2 ⟨⟨h1,h2,h3⟩,h⟩
theorem Sat.NU {b:Nat} {f:Int→Option Value} {n:Nat} (h:Sat W w (sep (jO b f n) A)):Sat W w (sep (NV b f n) A):=by
 obtain⟨es,clock,h1,h2,-,h4⟩:=h.nS
 exact h4.Ut h1 h2
theorem Sat.GU (h:Sat W w A):Sat W (w.alloc (.map #[] 0)) (sep (jO w.heap.size (fun _=>none) 0) A):=
 (h.alloc (.map #[] 0)).ru fJ.nil rfl (Born.nil 0)
theorem oP {T K E:TypeId} {z:Value} (hT:P.underlying T=some (.map K E)) (hK:P.underlying K=some (.int .i64)) (hz:∀w,(zeroValue E).run P w=.ok z w)
 {b:Nat} {f:Int→Option Value} {n:Nat} (h:Sat W w (sep (jO b f n) A)) (k:Int) (ok:Bool):
 (Instr.lookup T (.map (some b)) (.int .i64 k) ok).run P w=.ok (if ok then .tuple #[(f k).getD z,.bool (f k).isSome] else (f k).getD z) w:=yN hT hK hz h.NU k ok
theorem oQ {T K E:TypeId} (hT:P.underlying T=some (.map K E)) (hK:P.underlying K=some (.int .i64)) {b:Nat} {f:Int→Option Value} {n:Nat} (h:Sat W w (sep (jO b f n) A)) (k:Int) (v:Value):
 ∃w' n',(Instr.mapUpdate T (.map (some b)) (.int .i64 k) v).run P w=.ok () w'∧n'=(if (f k).isSome then n else n+1)∧Sat W w' (sep (jO b (qj f k (some v)) n') A):=by
 obtain⟨es,clock,h1,h2,hb,h3⟩:=h.nS
 obtain⟨r,e1,e2,e3⟩:=kW (P:=P) (k:=k) hK h1 w
 have hg:=run_getObj_map (P:=P) h3.aK
 cases r with
 | none=>
  have hk:f k=none:=by rw[←e2];rfl
  refine⟨_,n+1,by simp[Instr.mapUpdate,run_underlying hT,hg,fK hK,e1,run_setObj_map (P:=P) h3.aK];rfl,by simp[hk],(h3.setObj _).ru ?_ (by simp[h2]) ?_⟩
  ·simpa using h1.push k v clock hk
  ·simpa using hb.push (.int .i64 k) v
 | some r=>
  obtain⟨j,u⟩:=r
  obtain⟨e,h4,h5,h6⟩:=e3 j u rfl
  have hk:(f k).isSome=true:=by rw[←e2];rfl
  have hkey:((es[j]?.map (·.key)).getD (.int .i64 k))=.int .i64 k:=by
   have:es[j]?=some e:=by simpa using h4
   simp[this,h5]
  refine⟨_,n,by simp[Instr.mapUpdate,run_underlying hT,hg,fK hK,e1,Instr.keyThatStays,hkey,uT,run_setObj_map (P:=P) h3.aK];rfl,by simp[hk],(h3.setObj _).ru ?_ (by simp[h2]) ?_⟩
  ·simpa using h1.modify k v h4 h5
  ·simpa using hb.modify j (.int .i64 k) v
structure P9 (es:List MapEntry) (f:Int→Option Value) (clock since c0:Nat) (seen:Array Nat) (left:Int→Bool):Prop where
 rep:fJ es f
 born:Born es clock
 old:∀e∈es,e.born<since
 sc:since≤c0
 scl:since≤clock
 lf:∀e∈es,∀k,e.key=.int .i64 k→left k=!seen.contains e.born
 lk:∀k,left k=true→(f k).isSome=true
def rng (b r:Nat) (f:Int→Option Value) (n:Nat) (left:Int→Bool) (cnt:Nat):aH:=ex fun s:Array MapEntry×Nat×Nat×Array Nat×Nat=>
 sep (fact (P9 s.1.toList f s.2.1 s.2.2.1 s.2.2.2.2 s.2.2.2.1 left∧s.1.size=n∧(leftOf s.1 s.2.2.2.1).size=cnt)) (sep (blk b (.map s.1 s.2.1)) (blk r (.mapIter (some b) s.2.2.1 s.2.2.2.1 s.2.2.2.2)))
theorem Sat.zD {b r:Nat} {f:Int→Option Value} {n:Nat} {left:Int→Bool} {cnt:Nat} (h:Sat W w (sep (rng b r f n left cnt) A)):
 ∃es clock since seen c0,P9 es.toList f clock since c0 seen left∧es.size=n∧(leftOf es seen).size=cnt∧Sat W w (sep (blk b (.map es clock)) (sep (blk r (.mapIter (some b) since seen c0)) A)):=by
 rw[rng,dG,Sat.ex] at h
 obtain⟨⟨es,clock,since,seen,c0⟩,h⟩:=h
 rw[aj,aj] at h
 have h':=Sat.fact.1 h
 exact⟨es,clock,since,seen,c0,h'.1.1,h'.1.2.1,h'.1.2.2,h'.2⟩
theorem Sat.Qa {b r:Nat} {f:Int→Option Value} {n:Nat} {left:Int→Bool} {cnt:Nat} {es:Array MapEntry} {clock since c0:Nat} {seen:Array Nat}
 (h:Sat W w (sep (blk b (.map es clock)) (sep (blk r (.mapIter (some b) since seen c0)) A))) (h1:P9 es.toList f clock since c0 seen left) (h2:es.size=n) (h3:(leftOf es seen).size=cnt):Sat W w (sep (rng b r f n left cnt) A):=by
 rw[rng,dG,Sat.ex]
 refine⟨(es,clock,since,seen,c0),?_⟩
 rw[aj,aj]
 exact Sat.fact.2 ⟨⟨h1,h2,h3⟩,h⟩
theorem Sat.GV {b r:Nat} {f:Int→Option Value} {n:Nat} {left:Int→Bool} {cnt:Nat} (h:Sat W w (sep (rng b r f n left cnt) A)):w.rangeLeft b r=cnt:=by
 obtain⟨es,clock,since,seen,c0,-,-,h3,h4⟩:=h.zD
 simp only[World.rangeLeft,h4.aK,h4.p1.aK]
 exact h3
theorem Sat.Uu {b r:Nat} {f:Int→Option Value} {n:Nat} {left:Int→Bool} {cnt:Nat} (h:Sat W w (sep (rng b r f n left cnt) A)):Sat W w (sep (jO b f n) A):=by
 obtain⟨es,clock,since,seen,c0,h1,h2,-,h4⟩:=h.zD
 exact h4.p1.drop.ru h1.rep h2 h1.born
theorem fJ.qm {es:List MapEntry} {f:Int→Option Value} (h:fJ es f) {e:MapEntry} (he:e∈es) {k:Int} (hk:e.key=.int .i64 k):f k=some e.val:=by
 rw[←h.get k]
 cases hf:es.find? (gU k) with
 | none=>rw[List.find?_eq_none] at hf;exact absurd (by simp[gU,hk]) (hf e he)
 | some x=>
  have hx:=List.mem_of_find?_eq_some hf
  obtain⟨n,hn⟩:=h.keys x hx
  have hp:=List.find?_some hf
  simp[gU,hn] at hp
  subst hp
  have:=entry_eq_of_key h.nodup hx he (hn.trans hk.symm)
  rw[this];rfl
theorem fJ.GX {es:List MapEntry} {f:Int→Option Value} (h:fJ es f) {k:Int} (hk:(f k).isSome=true):∃e∈es,e.key=.int .i64 k:=by
 rw[←h.get k] at hk
 cases hf:es.find? (gU k) with
 | none=>rw[hf] at hk;cases hk
 | some x=>
  have hx:=List.mem_of_find?_eq_some hf
  obtain⟨n,hn⟩:=h.keys x hx
  have hp:=List.find?_some hf
  simp[gU,hn] at hp
  subst hp
  exact⟨x,hx,hn⟩
theorem zF {T K E:TypeId} (hT:P.underlying T=some (.map K E)) {b:Nat} {f:Int→Option Value} {n:Nat} (h:Sat W w (sep (jO b f n) A)):
 ∃w',(Instr.range T (.map (some b))).run P w=.ok (.pointer (some ⟨w.heap.size,0,none⟩)) w'∧Sat W w' (sep (rng b w.heap.size f n (fun k=>(f k).isSome) n) A):=by
 obtain⟨es,clock,h1,h2,hb,h3⟩:=h.nS
 have hg:=run_getObj_map (P:=P) h3.aK
 refine⟨w.alloc (.mapIter (some b) clock #[] clock),by simp[Instr.range,run_underlying hT,hg],?_⟩
 refine ((h3.alloc (.mapIter (some b) clock #[] clock)).p1).Qa ⟨h1,hb,hb.lt,Nat.le_refl _,Nat.le_refl _,fun e he k hk=>?_,fun k hk=>hk⟩ h2 ?_
 ·rw[h1.qm he hk];simp
 ·rw[←h2];simp[leftOf]
theorem GY (es:Array MapEntry) (seen:Array Nat) (e:MapEntry) (he:e∈(leftOf es seen).toList):(leftOf es (seen.push e.born)).size<(leftOf es seen).size:=by
 have hsub:(leftOf es (seen.push e.born)).toList=(leftOf es seen).toList.filter fun x=>x.born !=e.born:=by
  unfold leftOf
  simp only[Array.toList_filter,List.filter_filter]
  congr 1
  funext x
  by_cases h:x.born=e.born
  ·simp[h]
  ·simp[h,bne]
 have hlt:(leftOf es (seen.push e.born)).toList.length<(leftOf es seen).toList.length:=by
  rw[hsub]
  exact List.length_filter_lt_length_iff_exists.2 ⟨e,he,by simp⟩
 simpa using hlt
theorem EJ {b r:Nat} {f:Int→Option Value} {n:Nat} {left:Int→Bool} {cnt:Nat} (ty:TypeId) (h:Sat W w (sep (rng b r f n left cnt) A)):
 ((∀k,left k=false)∧(Instr.next (.pointer (some ⟨r,0,none⟩)) false ty).run P w=.ok (.tuple #[.bool false]) w) ∨
 ∃k v w' cnt',left k=true∧f k=some v∧cnt'<cnt∧(Instr.next (.pointer (some ⟨r,0,none⟩)) false ty).run P w=.ok (.tuple #[.bool true,.int .i64 k,v]) w' ∧
  (Instr.entry (.pointer (some ⟨r,0,none⟩))).run P w'=.ok (.tuple #[.int .i64 k,v]) w'∧Sat W w' (sep (rng b r f n (fun z=>left z&&z !=k) cnt') A):=by
 obtain⟨es,clock,since,seen,c0,h1,h2,h3,h4⟩:=h.zD
 rcases run_next_at (P:=P) w ty r b since c0 seen es clock h4.p1.aK h4.aK h1.old h1.sc with ⟨h0,hrun⟩|⟨e,he,w1,hw1,hrun⟩
 ·refine .inl ⟨fun k=>?_,hrun⟩
  cases hk:left k with
  | false=>rfl
  | true=>
   obtain⟨e,he,hek⟩:=h1.rep.GX (h1.lk k hk)
   have:=h1.lf e he k hek
   rw[hk] at this
   have hm:e∈(leftOf es seen).toList:=by unfold leftOf;simp;exact⟨by simpa using he,by simpa using this.symm⟩
   have h00:(leftOf es seen).toList.length=0:=by simpa using h0
   rw[List.eq_nil_of_length_eq_zero h00] at hm
   cases hm
 ·have hmem:e∈es.toList∧seen.contains e.born=false:=by
   unfold leftOf at he;simp at he;exact⟨by simpa using he.1,by simpa using he.2⟩
  obtain⟨k,hk⟩:=h1.rep.keys e hmem.1
  have hlk:=h1.lf e hmem.1 k hk
  rw[hmem.2] at hlk
  have abn:Sat W w1 (sep (blk r (.mapIter (some b) since seen c0)) (sep (blk b (.map es clock)) A)):=by
   rcases hw1 with rfl|rfl
   ·exact h4.p1
   ·exact h4.p1.drew
  have hset:Sat W (Go.ChangeMaps.setBlock w1 r (.mapIter (some b) since (seen.push e.born) clock)) (sep (blk r (.mapIter (some b) since (seen.push e.born) clock)) (sep (blk b (.map es clock)) A)):=abn.setObj _
  refine .inr ⟨k,e.val,_,_,by simpa using hlk,h1.rep.qm hmem.1 hk,?_,by rw[hk] at hrun;exact hrun,?_,hset.p1.Qa ⟨h1.rep,h1.born,h1.old,h1.scl,h1.scl,?_,?_⟩ h2 rfl⟩
  ·rw[←h3];exact GY es seen e he
  ·have:=run_entry_at (P:=P) _ r b since seen es clock e hset.aK hset.p1.aK hmem.1 h1.born.nodup
   rw[hk] at this;exact this
  ·intro e2 he2 k2 hk2
   rw[h1.lf e2 he2 k2 hk2,Array.contains_push]
   by_cases hkk:k2=k
   ·subst hkk
    have:e2=e:=entry_eq_of_key h1.rep.nodup he2 hmem.1 (hk2.trans hk.symm)
    subst this
    simp
   ·have hb:¬e2.born=e.born:=fun hbe=>hkk (by
     have:e2=e:=Me h1.born.nodup he2 hmem.1 hbe
     subst this
     rw[hk2] at hk;cases hk;rfl)
    have e1:(k2 !=k)=true:=by simp[hkk]
    have e2:(e2.born==e.born)=false:=by simp[hb]
    rw[e1,e2];simp
  ·intro z hz
   simp at hz
   exact h1.lk z hz.1
end
end PA
namespace PA
open Go Go.RowKit
section
variable {P:Program} {W w:World} {A:aH}
theorem pY {T:TypeId} {b:Nat} {es:Array MapEntry} {clock:Nat} (hb:(es.toList.map (·.born)).Nodup) {j:Nat} {e:MapEntry} (hj:es[j]?=some e) (h:Sat W w (sep (blk b (.map es clock)) A)) (v:Value):
 ∃w',(Instr.entryStore T (.map (some b)) (.int .i64 (e.born:Nat)) v).run P w=.ok () w'∧Sat W w' (sep (blk b (.map (es.modify j fun x=>{ x with val:=v }) clock)) A):=by
 have hg2:=run_getObj_map (P:=P) h.aK
 have hidx:es.findIdx? (fun x=>((x.born:Nat):Int)==((e.born:Nat):Int))=some j:=by
  have hsz:j<es.size:=(Array.getElem?_eq_some_iff.1 hj).1
  have hje:es[j]=e:=(Array.getElem?_eq_some_iff.1 hj).2
  rw[Array.findIdx?_eq_some_iff_getElem]
  refine⟨hsz,by simp[hje],fun i hi=>?_⟩
  have hp:=List.pairwise_iff_getElem.1 (List.pairwise_map.1 hb) i j (by rw[Array.length_toList];omega) (by rw[Array.length_toList];exact hsz) hi
  simp only[Array.getElem_toList] at hp
  rw[hje] at hp
  simp only[beq_iff_eq]
  intro hq
  exact hp (by omega)
 exact⟨_,by simp[Instr.entryStore,hg2,asInt,asIntOf,hidx,run_setObj_map (P:=P) h.aK],h.setObj _⟩
theorem zC {es:List MapEntry} {j:Nat} {e:MapEntry} {k:Value} (h1:es[j]?=some e) (h2:e.key=k) (v:Value):es.modify j (fun x=>{ x with val:=v })=es.modify j fun x=>{ x with key:=k,val:=v }:=by
 apply List.ext_getElem?
 intro i
 rw[List.getElem?_modify,List.getElem?_modify]
 by_cases hi:j=i
 ·subst hi;rw[h1];simp[←h2]
 ·simp[hi]
theorem qg {T K E:TypeId} {z:Value} (hT:P.underlying T=some (.map K E)) (hK:P.underlying K=some (.int .i64)) (hz:∀w,(zeroValue E).run P w=.ok z w) {b:Nat} {f:Int→Option Value} {n:Nat} (h:Sat W w (sep (jO b f n) A)) (k:Int):
 ∃(v0:Value) (st:Int) (w1:World) (X:aH),(Instr.mapEntry T (.map (some b)) (.int .i64 k)).run P w=.ok (.tuple #[v0,.int .i64 st]) w1∧Sat W w1 (sep X A) ∧
  ∀(w2:World) (B:aH) (v:Value),Sat W w2 (sep X B)→∃w3 n',(Instr.entryStore T (.map (some b)) (.int .i64 st) v).run P w2=.ok () w3∧Sat W w3 (sep (jO b (qj f k (some v)) n') B):=by
 obtain⟨es,clock,h1,h2,hb,h3⟩:=h.nS
 obtain⟨r,e1,e2,e3⟩:=kW (P:=P) (k:=k) hK h1 w
 have hg:=run_getObj_map (P:=P) h3.aK
 cases r with
 | none=>
  have hk:f k=none:=by rw[←e2];rfl
  have hp:=hb.push (.int .i64 k) z
  refine⟨z,(clock:Int),_,blk b (.map (es.push { key:=.int .i64 k,val:=z,born:=clock }) (clock+1)),by simp[Instr.mapEntry,run_underlying hT,hg,fK hK,e1,hz,run_setObj_map (P:=P) h3.aK,goInt],h3.setObj _,fun w2 B v hw2=>?_⟩
  obtain⟨w3,r3,h4⟩:=pY (T:=T) (P:=P) (j:=es.size) (e:={ key:=.int .i64 k,val:=z,born:=clock }) (by simpa using hp.nodup) (by simp) hw2 v
  have hmod:((es.push { key:=Value.int .i64 k,val:=z,born:=clock }).modify es.size fun x=>{ x with val:=v }).toList=es.toList++[{ key:=Value.int .i64 k,val:=v,born:=clock }]:=by
   rw[Array.toList_modify,Array.toList_push]
   apply List.ext_getElem?
   intro i
   rw[List.getElem?_modify]
   by_cases hi:es.size=i
   ·subst hi
    have:es.toList.length=es.size:=Array.length_toList
    simp
   ·simp only[hi,if_false]
    by_cases hlt:i<es.size
    ·rw[List.getElem?_append_left (by simpa using hlt),List.getElem?_append_left (by simpa using hlt)];simp
    ·rw[List.getElem?_append_right (by simp;omega),List.getElem?_append_right (by simp;omega)]
     have:i-es.toList.length≠0:=by simp;omega
     obtain⟨m,hm⟩:∃m,i-es.toList.length=m+1:=⟨i-es.toList.length-1,by omega⟩
     rw[hm];simp
  refine⟨w3,_,r3,h4.ru ?_ rfl ?_⟩
  ·rw[hmod];exact h1.push k v clock hk
  ·rw[hmod];exact hb.push (.int .i64 k) v
 | some r=>
  obtain⟨j,u⟩:=r
  obtain⟨e,h4,h5,h6⟩:=e3 j u rfl
  have hk:(f k).isSome=true:=by rw[←e2];rfl
  have hj:es[j]?=some e:=by simpa using h4
  have hsame:es.modify j (fun x=>{ x with key:=.int .i64 k })=es:=by
   apply Array.ext'
   rw[Array.toList_modify]
   apply List.ext_getElem?
   intro i
   rw[List.getElem?_modify]
   by_cases hi:j=i
   ·subst hi;rw[h4];simp[←h5]
   ·simp[hi]
  refine⟨u,(e.born:Int),_,blk b (.map es clock),by simp[Instr.mapEntry,run_underlying hT,hg,fK hK,e1,hj,h5,Instr.keyThatStays,uT,hsame,run_setObj_map (P:=P) h3.aK,goInt],h3.setObj _,fun w2 B v hw2=>?_⟩
  obtain⟨w3,r3,h7⟩:=pY (T:=T) (P:=P) hb.nodup hj hw2 v
  refine⟨w3,_,r3,h7.ru ?_ rfl ?_⟩
  ·rw[Array.toList_modify,zC h4 h5];exact h1.modify k v h4 h5
  ·rw[Array.toList_modify,zC h4 h5];exact hb.modify j (.int .i64 k) v
end
end PA
