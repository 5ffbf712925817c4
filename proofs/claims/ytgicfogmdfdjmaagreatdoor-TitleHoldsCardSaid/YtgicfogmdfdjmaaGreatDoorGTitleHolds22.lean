/- Part of a proof. -/
import Derived.Test.YtgicfogmdfdjmaaGreatDoorGTitleHolds4
import Derived.RangeFuncNested
import Derived.Shelf.Abstract
import Derived.Shelf.RegionOpen
import Derived.RangeFuncBox
import Derived.Maps.AppendAt
import Derived.Handy
import Derived.Lib.SliceRun
import Derived.Laws.IdiomStrings
namespace PA
open Go
def QS (a b:Rt):Bool:=decide (a.n*b.d<b.n*a.d)
def jg (r:Rt):Bool:=okR r&&(decide (r.n≤1073741824)&&(decide (-1073741824≤r.n)&&decide (r.d≤32768)))
def Iv.lw (x:Iv):Rt:=⟨x.ln,x.ld⟩
def Iv.up (x:Iv):Rt:=⟨x.hn,x.hd⟩
def zR (r:Rt):Bool:=r.n==0&&r.d==0
def eqR (a b:Rt):Bool:=a.n==b.n&&a.d==b.d
def kC (x:Iv):Bool:=
 if ((x.li&&(!zR x.lw||x.lo))||(x.hi&&(!zR x.up||x.ho)))=true then false
 else if ((!x.li&&!jg x.lw)||(!x.hi&&!jg x.up))=true then false
 else if (x.li||x.hi)=true then true
 else if eqR x.lw x.up=true then !x.lo&&!x.ho else QS x.lw x.up
def vC (a b:Iv):Bool:=
 if (a.hi||b.li)=true then false
 else if eqR a.up b.lw=true then a.ho&&b.lo else QS a.up b.lw
def vG (l:List Iv) (j:Nat):Bool:=
 match l[j]? with
 | none=>true
 | some x=>kC x&&(match j with|0=>true|j'+1=>match l[j']? with|none=>true|some y=>vC y x)
def Cc (l:List Iv) (n:Nat):Bool:=(List.range n).all (vG l)
theorem FC (l:List Iv):Cc l 0=true:=rfl
theorem yA (l:List Iv) (n:Nat):Cc l (n+1)=(Cc l n&&vG l n):=by
 unfold Cc;rw[List.range_succ,List.all_append];simp
theorem Ce {l:List Iv} {n i:Nat} (hi:i<n) (h:vG l i=false):Cc l n=false:=by
 unfold Cc
 rw[List.all_eq_false]
 exact⟨i,List.mem_range.2 hi,by rw[h];decide⟩
def WL (l:List Iv):Int:=if Cc l l.length=false then 1 else if 32<l.length then 4 else 0
def Ae (l:List Iv):Bool:=decide (WL l=0)
def qC (l:List Int) (i:Nat) (k:Nat):Bool:=
 match l[k]? with
 | none=>true
 | some r=>decide (0≤r)&&(decide (r<(i:Int))&&(match k with|0=>true|k'+1=>match l[k']? with|none=>true|some q=>decide (q<r)))
def uw (l:List Int) (i n:Nat):Bool:=(List.range n).all (qC l i)
theorem Ci (l:List Int) (i:Nat):uw l i 0=true:=rfl
theorem vH (l:List Int) (i n:Nat):uw l i (n+1)=(uw l i n&&qC l i n):=by
 unfold uw;rw[List.range_succ,List.all_append];simp
theorem QT {l:List Int} {i n k:Nat} (hk:k<n) (h:qC l i k=false):uw l i n=false:=by
 unfold uw
 rw[List.all_eq_false]
 exact⟨k,List.mem_range.2 hk,by rw[h];decide⟩
def qE (l:List Int) (i:Nat):Bool:=uw l i l.length
theorem FD {l:List Int} {i:Nat} (h:qE l i=true):∀r∈l,0≤r∧r<(i:Int):=by
 intro r hr
 obtain⟨k,hk,rfl⟩:=List.mem_iff_getElem.1 hr
 unfold qE uw at h
 have:=List.all_eq_true.1 h k (List.mem_range.2 hk)
 unfold qC at this
 rw[List.getElem?_eq_getElem hk] at this
 simp only[Bool.and_eq_true,decide_eq_true_eq] at this
 exact⟨this.1,this.2.1⟩
def qO (f:Fm):Int:=f.valid Ae
def zI:Nat→List Cl→Int
 | _,[]=>0
 | i,c::l=>if 8<c.refs.length then 4 else if qE c.refs i=false then 1 else if qO c.body≠0 then qO c.body else zI (i+1) l
def Cj (l:List Cl):Int:=if 32<l.length then 4 else zI 0 l
theorem Pn:∀(l:List Cl) (i:Nat),zI i l=0→∀(k:Nat) (hk:k<l.length),l[k].refs.length≤8∧qE l[k].refs (i+k)=true∧qO l[k].body=0
 | c::l,i,h,k,hk=>by
  unfold zI at h
  split at h
  ·cases h
  ·rename_i h1
   split at h
   ·cases h
   ·rename_i h2
    split at h
    ·rename_i h3;exact absurd h h3
    ·rename_i h3
     cases k with
     | zero=>exact⟨by simpa using h1,by simpa using h2,by simpa using h3⟩
     | succ k=>
      have:=Pn l (i+1) h k (by simpa using hk)
      simp only[List.getElem_cons_succ]
      rw[show i+(k+1)=i+1+k by omega]
      exact this
theorem NQ {l:List Cl} (h:Cj l=0):l.length≤32∧∀(k:Nat) (hk:k<l.length),l[k].refs.length≤8∧qE l[k].refs k=true∧qO l[k].body=0:=by
 unfold Cj at h
 split at h
 ·cases h
 ·rename_i h1
  refine⟨by omega,fun k hk=>?_⟩
  have:=Pn l 0 h k hk
  rwa [Nat.zero_add] at this
mutual
def Fm.iT:Fm→List Fm
 | .mk o n i k=>if o=5 then Fm.dV k else [.mk o n i k]
def Fm.dV:List Fm→List Fm
 | []=>[]
 | f::l=>Fm.iT f++Fm.dV l
end
def Fm.parts (f:Fm):List Fm:=if f.op=4 then f.kids else [f]
theorem Fm.CG:∀(l:List Fm) (f:Fm),Fm.dV (l++[f])=Fm.dV l++Fm.iT f
 | [],f=>by simp[Fm.dV]
 | g::l,f=>by rw[List.cons_append,Fm.dV,Fm.dV,Fm.CG l f,List.append_assoc]
theorem Fm.NR (l:List Fm) (i:Nat) (hi:i<l.length):Fm.dV (l.take (i+1))=Fm.dV (l.take i)++Fm.iT l[i]:=by
 rw[List.take_succ_eq_append_getElem hi,Fm.CG]
def lu (a b:Fm):Fm:=.mk 4 0 [] (a.parts++b.parts)
def fU:List Fm→List Fm→Option (List Fm)
 | [],_=>some []
 | a::x,t=>if (t.all fun b=>decide (qO (lu a b)=0))=true then (fU x t).map (t.map (lu a)++·) else none
def iO (of:Nat→Option (List Fm)) (own:List Fm):List Int→List Fm→Option (List Fm)
 | [],out=>some out
 | r::rs,out=>
  match of r.toNat with
  | none=>none
  | some x=>if 64<out.length+x.length*own.length then none else
   match fU x own with
   | none=>none
   | some y=>iO of own rs (out++y)
def NS (of:Nat→Option (List Fm)) (c:Cl):Option (List Fm):=
 if c.refs=[] then (if c.body.iT.length≤64 then some c.body.iT else none) else iO of c.body.iT c.refs []
def lX (l:List Cl) (k:Nat):Option (List Fm):=
 match l[k]? with
 | none=>none
 | some c=>NS (fun r=>if r<k then lX l r else none) c
termination_by k
theorem pV:∀{x t y:List Fm},fU x t=some y→y.length=x.length*t.length
 | [],t,y,h=>by cases h;simp
 | a::x,t,y,h=>by
  unfold fU at h
  split at h
  ·cases hc:fU x t with
   | none=>rw[hc] at h;cases h
   | some z=>
    rw[hc] at h
    cases h
    rw[dI,List.length_map,pV hc,List.length_cons,Nat.add_mul];omega
  ·cases h
theorem zh {of:Nat→Option (List Fm)} {own:List Fm}:∀{rs:List Int} {out y:List Fm},out.length≤64→iO of own rs out=some y→y.length≤64
 | [],out,y,h0,h=>by cases h;exact h0
 | r::rs,out,y,h0,h=>by
  unfold iO at h
  split at h
  ·cases h
  ·split at h
   ·cases h
   ·rename_i h1
    split at h
    ·cases h
    ·rename_i z hz
     have hl:=pV hz
     exact zh (by rw[dI,hl];omega) h
theorem KE {l:List Cl} {k:Nat} {y:List Fm} (h:lX l k=some y):y.length≤64:=by
 unfold lX at h
 split at h
 ·cases h
 ·unfold NS at h
  split at h
  ·split at h
   ·cases h;assumption
   ·cases h
  ·exact zh (by simp) h
def wL:List Fm→Int
 | []=>0
 | f::l=>if qO f≠0 then qO f else wL l
def o7 (l:List Cl):Nat→Option Nat
 | 0=>some 0
 | n+1=>match o7 l n with
  | none=>none
  | some s=>match lX l n with
   | none=>none
   | some y=>some (s+y.length)
def WM (td:List Fm) (tc:List Cl):Int:=
 if 16<td.length then 4 else if wL td≠0 then wL td else if Cj tc≠0 then Cj tc else
  match o7 tc tc.length with
  | none=>4
  | some s=>if 128<(Fm.dV td).length+s then 4 else 0
def bT (n lo hi:Int):Bool:=decide (lo≤n)&&decide (n≤hi)
def dB (k:Int):Bool:=decide (k≠5)&&(decide (k≠19)&&(decide (k≠20)&&decide (k≠21)))
def U8 (x:Pa):Pa:=
 { x with
  f:=if dB x.k=true then 0 else x.f
  o:=if x.k=0∨x.k=20∨x.k=21 then 0 else x.o
  p:=if x.k=0∨x.k=4∨x.k=5∨x.k=12∨x.k=14∨x.k=16∨x.k=17 then 0 else x.p
  q:=if x.k=0∨x.k=4∨x.k=13∨x.k=16∨x.k=17 then 0 else x.q
  u:=if x.k=4∨x.k=5∨x.k=6∨x.k=7∨x.k=8∨x.k=9∨x.k=13∨x.k=17∨x.k=18∨x.k=20∨x.k=21 then 0 else x.u
  m:=if x.k=4∨x.k=8∨x.k=21 then 0 else x.m
  sn:=if x.k=16 then 0 else x.sn
  sd:=if x.k=16 then 0 else x.sd
  td:=if x.k=0 then [] else x.td
  tc:=if x.k=0 then [] else x.tc
  cl:=if x.k=3∨x.k=15∨(x.k=13∧x.u=2) then [] else x.cl
  ea:=if x.k=0 then [] else x.ea
  fx:=if x.k=19 then Fm.zero else x.fx }
def Hr (x:Pa):Bool:=
 decide (x.f=0)&&(decide (x.o=0)&&(decide (x.p=0)&&(decide (x.q=0)&&(decide (x.u=0)&&(decide (x.m=0)&&(decide (x.sn=0)&&(decide (x.sd=0) &&
 (decide (x.fx.op=0)&&(decide (x.fx.num=0)&&(decide (x.fx.ins.length=0)&&(decide (x.fx.kids.length=0) &&
 (decide (x.td.length=0)&&(decide (x.tc.length=0)&&(decide (x.cl.length=0)&&decide (x.ea.length=0)))))))))))))))
def QU (f:Int) (l:List Ea) (j:Nat):Bool:=
 match l[j]? with
 | none=>true
 | some e=>bT e.file 0 4095&&(decide (e.file≠f)&&(bT e.day 0 131072&&!((l.take j).any fun g=>decide (g.file=e.file))))
def Es (f:Int) (l:List Ea) (n:Nat):Bool:=(List.range n).all (QU f l)
theorem QV (f:Int) (l:List Ea) (n:Nat):Es f l (n+1)=(Es f l n&&QU f l n):=by
 unfold Es;rw[List.range_succ,List.all_append];simp
theorem U9 {f:Int} {l:List Ea} {n i:Nat} (hi:i<n) (h:QU f l i=false):Es f l n=false:=by
 unfold Es
 rw[List.all_eq_false]
 exact⟨i,List.mem_range.2 hi,by rw[h];decide⟩
def Af (x:Pa):Bool:=
 if bT x.o 0 11=false∨bT x.p 1 4095=false∨bT x.q (-1) 4095=false∨x.q=x.f∨8<x.ea.length∨WM x.td x.tc≠0 then false else Es x.f x.ea x.ea.length
def nV (l:List Cl):Bool:=decide (0<l.length)&&decide (Cj l=0)
def wM (x:Pa):Bool:=bT x.p 1 4095&&(bT x.q 1 4095&&decide (x.p≠x.q))
def CJ (x:Pa):Bool:=bT x.u x.d 131072
def Ht (n d:Int):Bool:=okR ⟨n,d⟩&&(decide (0<n)&&decide (n≤d))
def aS (x:Pa):Bool:=
 if x.k=0 then Af x
 else if x.k=3∨x.k=15 then nV x.cl
 else if x.k=4 then bT x.p 1 4095&&((bT x.u 0 5||bT x.u 7 66)&&(bT x.q 0 7&&bT x.m 1 1099511627776))
 else if x.k=5 then bT x.p 1 4095&&bT x.u 0 1
 else if x.k=6∨x.k=7 then bT x.u 0 255
 else if x.k=8 then bT x.u 0 255&&bT x.m 1 12
 else if x.k=9 then CJ x
 else if x.k=12∨x.k=14 then bT x.p 1 4095
 else if x.k=13 then bT x.u 0 2&&(bT x.q 0 1&&(decide (x.u≠2)||nV x.cl))
 else if x.k=16 then wM x&&Ht x.sn x.sd
 else if x.k=17 then wM x&&CJ x
 else if x.k=18 then bT x.u 0 7
 else if x.k=19 then decide (qO x.fx=0)
 else if x.k=20 then bT x.o 0 11&&CJ x
 else if x.k=21 then bT x.o 0 11&&(bT x.u 0 18&&bT x.m 0 1099511627776)
 else true
def yB (x:Pa):Bool:=
 bT x.k 0 21&&(bT x.d 0 131072&&(bT x.n 0 1099511627776&&(bT x.f 0 4095&&(Hr (U8 x)&&aS x))))
end PA
namespace PA
open Go
theorem X8 (n d:Int):okR ⟨n,d⟩=true↔1≤d∧d≤1048576∧n≤1099511627776∧-1099511627776≤n∧Nat.gcd n.natAbs d.natAbs=1:=by
 constructor
 ·intro h
  have hr:=(dM h).1
  exact⟨hr.d1,hr.d2,hr.n2,hr.n1,Kw n d (by have:=hr.d1;simp only at this;omega) h⟩
 ·rintro⟨h1,h2,h3,h4,h5⟩
  exact mY n d h1 h2 (by omega) h5
end PA
namespace Go.Proofs.YtgicfogmdfdjmaaGreatDoor
open Go.RowKit PA
set_option maxHeartbeats 1000000 in
theorem wO {W w:World} {A:aG} (a b:Int) (ha:a.natAbs≤4611686018427387904) (hb:b.natAbs≤4611686018427387904) (h:Sat W w A):
 Calls Tryz.prog 99 #[.int .i64 a,.int .i64 b] w fun e w'=>e=.returned (.int .i64 (Nat.gcd a.natAbs b.natAbs:Nat))∧Sat W w' A:=by
 obtain⟨g,hg⟩:=aC (Nat.gcd a.natAbs b.natAbs)
 rw[←hg]
 have HG:=ah hg
 clear hg
 go_enter Tryz.func99,Tryz.ntmps99
 go_wp2
 go_loopw [0,1] (fun av bv wr=>∃x y:Int,av=.int .i64 x∧bv=.int .i64 y∧x.natAbs≤4611686018427387904∧y.natAbs≤4611686018427387904∧Hid (Nat.gcd x.natAbs y.natAbs=g)∧Sat W wr A) (fun _ bv _=>(intOf bv).natAbs)
 case atStart=>exact⟨a,b,rfl,rfl,ha,hb,ah HG.out.symm,h⟩
 case round=>
  obtain⟨x,y,rfl,rfl,hx,hy,WC,hS⟩:=hrel
  by_cases h0:y=0
  ·subst h0
   have hxg:x.natAbs=g:=by rw[←WC.out];simp
   have HGG:=ah hxg
   by_cases hneg:x<0
   ·have ew:-x=(g:Int):=by omega
    clear hxg HG ha hb h
    go_wp2
    go_ret
    exact⟨by simp,hS⟩
   ·have ew:x=(g:Int):=by omega
    clear hxg HG ha hb h
    go_wp2
    go_ret
    exact⟨rfl,hS⟩
  ·obtain⟨z,hz⟩:∃z,z=Int.tmod x y:=⟨_,rfl⟩
   have hm:Int.tmod x y=z:=hz.symm
   have hzn:z.natAbs=x.natAbs % y.natAbs:=by rw[hz,Int.natAbs_tmod]
   have hzl:z.natAbs<y.natAbs:=by rw[hzn];exact Nat.mod_lt _ (by omega)
   have hyx:(y==0)=false:=by simpa using h0
   have HZ:=ah hzn
   clear hz hzn ha hb h
   go_wp2
   refine aA rfl (fun _=>True) [(0,.p),(1,.p),(2,.p),(3,.p),(4,.p),(5,.p)] (by kernel_rfl) ?_
   have hS0:True:=trivial
   (repeat ((first|(refine eF (v:=?_) rfl rfl (fun w'=>?_) ?_;rotate_left;(go_simp;with_reducible rfl))|(refine eG (v:=?_) rfl rfl hS0 (fun w' hS=>?_) ?_;rotate_left;((try dsimp only at hS);go_simp;with_reducible rfl))|(refine eH (v:=?_) rfl rfl ?_ ?_;rotate_left;(go_simp;with_reducible rfl))|(refine bD rfl rfl ?_)|(refine bG rfl rfl hS0 ?_)|(refine bH rfl rfl ?_));simp only[Act.put,lsA,lsB,bC]))
   refine bM ?_
   go_wp2
   go_roundw
   case rel=>exact⟨y,z,rfl,rfl,hy,by omega,ah (by rw[HZ.out,←WC.out,Nat.gcd_comm y.natAbs,←Nat.gcd_rec,Nat.gcd_comm]),hS.drew⟩
   case measure=>simp[intOf];omega
theorem NT (w:World) (a b c d:Int):(binOp .eql 57 (.agg #[.int .i64 a,.int .i64 b]) (.agg #[.int .i64 c,.int .i64 d])).run Tryz.prog w=.ok (.bool (a==c&&b==d)) w:=by
 have h1:Tryz.prog.underlying 57=some (.struct (Tryz.prog.fieldsOf 57)):=by kernel_rfl
 have h2:Tryz.prog.stoodInHeld 57=false:=by kernel_rfl
 have e:=run_equalIn_struct (P:=Tryz.prog) w 9999 57 #[.int .i64 a,.int .i64 b] #[.int .i64 c,.int .i64 d] h1 h2
 rw[run_eql_struct,e]
 clear e
 have q0:∀a b:Int,(part 3 #[.int .i64 a,.int .i64 b] 0).run Tryz.prog w=.ok (.int .i64 a) w:=fun a b=>by kernel_rfl
 have q1:∀a b:Int,(part 3 #[.int .i64 a,.int .i64 b] 1).run Tryz.prog w=.ok (.int .i64 b) w:=fun a b=>by kernel_rfl
 have r0:∀a b:Int,(Op.equalIn 9999 3 (.int .i64 a) (.int .i64 b)).run Tryz.prog w=.ok (a==b) w:=fun a b=>run_equalIn_int (P:=Tryz.prog) w 9998 3 .i64 .i64 a b Tryz.underlying3
 by_cases e1:a=c
 ·by_cases e2:b=d
  ·simp[Program.fieldsOf,Tryz.underlying57,Op.eqFields,q0,q1,r0,e1,e2]
  ·simp[Program.fieldsOf,Tryz.underlying57,Op.eqFields,q0,q1,r0,e1,e2]
 ·simp[Program.fieldsOf,Tryz.underlying57,Op.eqFields,q0,r0,e1]
def FH (b:Bool):Int:=if b=true then 0 else 1
set_option maxHeartbeats 1000000 in
theorem jl {W w:World} {A:aG} (n d:Int) (h:Sat W w A):
 Calls Tryz.prog 98 #[.agg #[.int .i64 n,.int .i64 d]] w fun e w'=>e=.returned (.int .i64 (FH (okR ⟨n,d⟩)))∧Sat W w' A:=by
 have hiff:=X8 n d
 have h1:=h.alloc (.cells #[.int .i64 n,.int .i64 d] 57)
 obtain⟨B,hB⟩:=aC (w.heap.size)
 obtain⟨w1,hw1⟩:=aC (w.alloc (.cells #[.int .i64 n,.int .i64 d] 57))
 rw[←hB,←hw1] at h1
 obtain⟨k0,k1,-,-⟩:=gX h1
 have HB:=ah (And.intro hB hw1)
 have H1:=ah h1
 clear h h1 hB hw1
 by_cases c1:d<1
 ·have hr:okR ⟨n,d⟩=false:=by rw[Bool.eq_false_iff];intro e;have:=hiff.1 e;omega
  rw[hr]
  clear hiff hr
  go_enter Tryz.func98,Tryz.ntmps98
  go_upto_region 1 with (fail)
  rw[←HB.out.1,←HB.out.2]
  go_wp2
  go_ret
  exact⟨rfl,H1.out.drop⟩
 by_cases c2:1048576<d
 ·have hr:okR ⟨n,d⟩=false:=by rw[Bool.eq_false_iff];intro e;have:=hiff.1 e;omega
  rw[hr]
  clear hiff hr
  go_enter Tryz.func98,Tryz.ntmps98
  go_upto_region 1 with (fail)
  rw[←HB.out.1,←HB.out.2]
  go_wp2
  go_ret
  exact⟨rfl,H1.out.drop⟩
 by_cases c3:1099511627776<n
 ·have hr:okR ⟨n,d⟩=false:=by rw[Bool.eq_false_iff];intro e;have:=hiff.1 e;omega
  rw[hr]
  clear hiff hr
  go_enter Tryz.func98,Tryz.ntmps98
  go_upto_region 1 with (fail)
  rw[←HB.out.1,←HB.out.2]
  go_wp2
  go_ret
  exact⟨rfl,H1.out.drop⟩
 by_cases c4:n < -1099511627776
 ·have hr:okR ⟨n,d⟩=false:=by rw[Bool.eq_false_iff];intro e;have:=hiff.1 e;omega
  rw[hr]
  clear hiff hr
  go_enter Tryz.func98,Tryz.ntmps98
  go_upto_region 1 with (fail)
  rw[←HB.out.1,←HB.out.2]
  go_wp2
  go_ret
  exact⟨rfl,H1.out.drop⟩
 ·obtain⟨g,hg⟩:∃g:Nat,g=Nat.gcd n.natAbs d.natAbs:=⟨_,rfl⟩
  have HC:=ah (wO n d (by omega) (by omega) H1.out)
  rw[←hg] at HC
  have hr:okR ⟨n,d⟩=decide (g=1):=by
   rw[Bool.eq_iff_iff,hiff,←hg,decide_eq_true_eq]
   constructor
   ·exact fun e=>e.2.2.2.2
   ·exact fun e=>⟨by omega,by omega,by omega,by omega,e⟩
  rw[hr]
  clear hiff hr hg
  by_cases hg1:g=1
  ·subst hg1
   go_enter Tryz.func98,Tryz.ntmps98
   go_upto_region 1 with (fail)
   rw[←HB.out.1,←HB.out.2]
   go_wp2_with fail
   refine HC.out.mono ?_
   rintro e w2 ⟨rfl,h2⟩
   have H2:=ah h2
   clear h2 HC k0 k1
   go_wp2
   go_ret
   exact⟨rfl,H2.out.drop⟩
  ·have hgz:((g:Int)==1)=false:=by simp;omega
   have hd:decide (g=1)=false:=decide_eq_false hg1
   rw[hd]
   clear hg1 hd
   go_enter Tryz.func98,Tryz.ntmps98
   go_upto_region 1 with (fail)
   rw[←HB.out.1,←HB.out.2]
   go_wp2_with fail
   refine HC.out.mono ?_
   rintro e w2 ⟨rfl,h2⟩
   have H2:=ah h2
   clear h2 HC k0 k1
   go_wp2
   go_ret
   exact⟨rfl,H2.out.drop⟩
end Go.Proofs.YtgicfogmdfdjmaaGreatDoor
namespace PA
open Go Go.RowKit
section
variable {P:Program} {ops:Array Oper} {Q:Exit→Act→World→Prop} {S:World→Prop}
theorem Zo {b:Bool} {E:List (Nat×List Nat)} {l:List iC} {K:Act→World→Prop} {a:Act} {w:World} {n:Nat} (hn:E.length=n) (h:uT P ops Q S b n E (jT P ops Q S l K) a w):jT P ops Q S (.grp b E::l) K a w:=by
 subst hn;exact h
end
end PA
namespace PA
open Go Go.RowKit
section
variable {P:Program} {ops:Array Oper} {Q:Exit→Act→World→Prop} {S:World→Prop} {W:World}
def jA (ops:Array Oper) (L:List Nat) (f:Nat→Option Value) (a:Act):Act:=L.foldl (fun a x=>match f x with|some v=>a.put (aZ ops x) v|none=>a) a
theorem jK (x:Nat) (L:List Nat) (f:Nat→Option Value) (a:Act):jA ops (x::L) f a=jA ops L f (match f x with|some v=>a.put (aZ ops x) v|none=>a):=rfl
def lg (f:Nat→Option Value) (x:Nat) (v:Value):Nat→Option Value:=fun y=>if y=x then some v else f y
theorem aV {f:Nat→Option Value} {x y:Nat} {v:Value} (h:y≠x):lg f x v y=f y:=by unfold lg;rw[if_neg h]
theorem gW {f:Nat→Option Value} {x:Nat} {v:Value}:lg f x v x=some v:=by unfold lg;rw[if_pos rfl]
def xU (ops:Array Oper) (x y:Nat):Prop:=∀d,aZ ops x=some d→aZ ops y≠some d
theorem Bg {x:Nat} {v:Value} (f:Nat→Option Value):∀(L:List Nat),(∀y∈L,xU ops x y)→∀a:Act,jA ops L f (a.put (aZ ops x) v)=(jA ops L f a).put (aZ ops x) v
 | [],_,_=>rfl
 | y::L,h,a=>by
  rw[jK,jK]
  cases hy:f y with
  | none=>exact Bg f L (fun z hz=>h z (List.mem_cons_of_mem _ hz)) a
  | some u=>
   show jA ops L f ((a.put (aZ ops x) v).put (aZ ops y) u)=(jA ops L f (a.put (aZ ops y) u)).put (aZ ops x) v
   rw[Act.put_comm a v u (h y (List.mem_cons_self ..)),Bg f L (fun z hz=>h z (List.mem_cons_of_mem _ hz))]
theorem Bh {f g:Nat→Option Value}:∀(L:List Nat),(∀y∈L,f y=g y)→∀a:Act,jA ops L f a=jA ops L g a
 | [],_,_=>rfl
 | y::L,h,a=>by
  rw[jK,jK,h y (List.mem_cons_self ..)]
  exact Bh L (fun z hz=>h z (List.mem_cons_of_mem _ hz)) _
theorem Jv {x:Nat} {v:Value} {f:Nat→Option Value}:∀(L:List Nat),x∈L→L.Pairwise (xU ops)→L.Nodup→f x=none→∀a:Act,jA ops L (lg f x v) a=(jA ops L f a).put (aZ ops x) v
 | [],h,_,_,_,_=>by cases h
 | y::L,h,hp,hn,hx,a=>by
  obtain⟨p1,p2⟩:=List.pairwise_cons.1 hp
  obtain⟨n1,n2⟩:=List.nodup_cons.1 hn
  rw[jK,jK]
  by_cases e:x=y
  ·subst e
   rw[gW,hx]
   show jA ops L (lg f x v) (a.put (aZ ops x) v)=(jA ops L f a).put (aZ ops x) v
   rw[Bh L (g:=f) (fun z hz=>aV (x:=x) (v:=v) (fun e=>n1 (by rw[←e];exact hz))),Bg f L p1]
  ·rw[aV (Ne.symm e)]
   exact Jv L ((List.mem_cons.1 h).resolve_left e) p2 n2 hx _
theorem Jw (a:Act) (d:Option Tmp) (v:Value):(a.put d v).tmps.size=a.tmps.size:=by
 cases d with
 | none=>rfl
 | some d=>simp[Act.put]
theorem Ee {a b:Act} {t:Tmp} {v:Value} (h:a.tmps.size=b.tmps.size):(a.put (some t) v).eval (.tmp t)=(b.put (some t) v).eval (.tmp t):=by
 simp[Act.put,Act.eval,Array.getElem?_setIfInBounds,h]
theorem oQ {f:Nat→Option Value} {t:Tmp} (keep:Nat→Bool):∀(L:List Nat) (a b:Act),a.tmps.size=b.tmps.size→a.eval (.tmp t)=b.eval (.tmp t)→(∀y∈L,keep y=false→aZ ops y≠some t)→(jA ops L f a).eval (.tmp t)=(jA ops (L.filter keep) f b).eval (.tmp t)
 | [],_,_,_,h,_=>h
 | y::L,a,b,hs,h,hL=>by
  have hL':=fun z hz=>hL z (List.mem_cons_of_mem _ hz)
  rw[jK,List.filter_cons]
  by_cases hk:keep y=true
  ·rw[if_pos hk,jK]
   cases hf:f y with
   | none=>exact oQ keep L _ _ hs h hL'
   | some v=>
    refine oQ keep L _ _ (by simp only[Jw,hs]) ?_ hL'
    by_cases hd:aZ ops y=some t
    ·simp only[hd];exact Ee hs
    ·simp only
     rw[Act.eval_put fun d hd' e=>hd (by rw[hd'];cases e;rfl),Act.eval_put fun d hd' e=>hd (by rw[hd'];cases e;rfl)]
     exact h
  ·rw[if_neg hk]
   have hk':keep y=false:=by simpa using hk
   have hd:=hL y (List.mem_cons_self ..) hk'
   cases hf:f y with
   | none=>exact oQ keep L _ _ hs h hL'
   | some v=>
    refine oQ keep L _ _ (by simp only[Jw,hs]) ?_ hL'
    simp only
    rw[Act.eval_put fun d hd' e=>hd (by rw[hd'];cases e;rfl)]
    exact h
def um (P:Program) (o:Oper) (a:Act) (w:World) (Post:Value→World→Prop):Prop:=
 (∃v w',(execOp a.eval o).run P w=.ok (.value v) w'∧Post v w') ∨
 (∃f args w1,(execOp a.eval o).run P w=.ok (.enter f args) w1∧Calls P f args w1 fun e w'=>∃v,e=.returned v∧Post v w')
theorem um.go {i:Nat} {o:Oper} {a:Act} {w:World} {Post:Value→World→Prop} (ho:ops[i]?=some o) (hg:o.guard=none) (h:um P o a w Post) {K:Act→World→Prop}
 (hK:∀v w',Post v w'→K (a.put o.dst v) w'):Go.wpOp P ops Q i K a w:=by
 unfold Go.wpOp
 have hw:Region.wanted o (yielded ops a.tmps)=true:=by unfold Region.wanted;rw[hg]
 simp only[ho,hw,if_true]
 refine .inl ?_
 unfold Oper.wp
 rcases h with ⟨v,w',h1,h2⟩|⟨f,args,w1,h1,h2⟩
 ·rw[h1];exact hK v w' h2
 ·rw[h1]
  refine Calls.mono h2 ?_
  rintro e w' ⟨v,rfl,h3⟩
  exact hK v w' h3
def dagB (ops:Array Oper) (E0:List Nat) (D:Nat→List Nat):Bool:=
 E0.all fun x=>(match ops[x]? with
  | none=>false
  | some o=>o.guard.isNone&&(match o.op with|.select ..=>false|_=>true)&&E0.all fun y=>(D x).contains y||(match aZ ops y with|some t=>!(o.looksAt ops).contains t|none=>true)) &&
  (D x).all fun d=>E0.contains d&&((Region.before ops).getD x 0).testBit d
def OZ (ops:Array Oper):List Nat→Bool
 | []=>true
 | x::L=>(L.all fun y=>match aZ ops x with|some d=>aZ ops y !=some d|none=>true)&&!L.contains x&&OZ ops L
theorem Jy:∀(L:List Nat),OZ ops L=true→L.Pairwise (xU ops)∧L.Nodup
 | [],_=>⟨.nil,.nil⟩
 | x::L,h=>by
  simp only[OZ,Bool.and_eq_true,List.all_eq_true,Bool.not_eq_true'] at h
  obtain⟨⟨h1,h2⟩,h3⟩:=h
  obtain⟨i1,i2⟩:=Jy L h3
  refine⟨List.pairwise_cons.2 ⟨fun y hy d hd=>?_,i1⟩,List.nodup_cons.2 ⟨fun hm=>?_,i2⟩⟩
  ·have:=h1 y hy
   rw[hd] at this
   simpa using this
  ·simp[hm] at h2
theorem Bj {a0:Act} {b:Bool} {K:Act→World→Prop} (E0:List Nat) (D:Nat→List Nat) (T:(Nat→Option Value)→aG)
 (hB:dagB ops E0 D=true) (hdst:OZ ops E0=true) (hS:b=true→∀f w,Sat W w (T f)→S w)
 (hop:∀x∈E0,∀(f:Nat→Option Value) (w:World) (o:Oper),ops[x]?=some o→f x=none→(∀d∈D x,(f d).isSome=true)→(∀y∈E0,(f y).isSome=true→∀d∈D y,(f d).isSome=true)→Sat W w (T f) →
  um P o (jA ops (E0.filter fun y=>(D x).contains y) f a0) w (fun v w'=>Sat W w' (T (lg f x v))))
 (hfin:∀(f:Nat→Option Value) (w:World),(∀x∈E0,(f x).isSome=true)→Sat W w (T f)→K (jA ops E0 f a0) w):
 ∀(n:Nat) (E:List Nat) (f:Nat→Option Value) (w:World),E.length=n→E.Nodup→(∀x,x∈E↔x∈E0∧f x=none)→(∀y∈E0,(f y).isSome=true→∀d∈D y,(f d).isSome=true)→Sat W w (T f) →
  uT P ops Q S b n (E.map fun x=>(x,[])) K (jA ops E0 f a0) w:=by
 obtain⟨hpw,hnd⟩:=Jy E0 hdst
 have hB':=List.all_eq_true.1 hB
 intro n
 induction n with
 | zero=>
  intro E f w hl _ hE _ hT
  have he:=List.eq_nil_of_length_eq_zero hl
  subst he
  refine hfin f w (fun x hx=>?_) hT
  cases hf:f x with
  | some v=>rfl
  | none=>have:=(hE x).2 ⟨hx,hf⟩;cases this
 | succ n ih=>
  intro E f w hl hn hE hcl hT
  rintro⟨x,js⟩ hxm xQ
  obtain⟨x',hx',e⟩:=List.mem_map.1 hxm
  cases e
  obtain⟨hx0,hfx⟩:=(hE x).1 hx'
  have hb:=hB' x hx0
  simp only[Bool.and_eq_true,List.all_eq_true] at hb
  obtain⟨hb1,hb2⟩:=hb
  cases ho:ops[x]? with
  | none=>rw[ho] at hb1;cases hb1
  | some o=>
   rw[ho] at hb1
   simp only[Bool.and_eq_true,List.all_eq_true,Bool.or_eq_true] at hb1
   obtain⟨⟨hg,hs⟩,hlook⟩:=hb1
   have hg':o.guard=none:=by simpa using hg
   have hs':∀cs b,o.op≠.select cs b:=fun cs b e=>by rw[e] at hs;cases hs
   have Bl:∀d∈D x,(f d).isSome=true:=fun d hd=>by
    have h1:=hb2 d hd
    simp only[List.contains_iff_mem] at h1
    cases hf:f d with
    | some v=>rfl
    | none=>
     have hdE:=(hE d).2 ⟨h1.1,hf⟩
     have:=List.all_eq_true.1 xQ (d,[]) (List.mem_map.2 ⟨d,hdE,rfl⟩)
     simp only[h1.2] at this
     cases this
   have hd1:=hop x hx0 f w o ho hfx Bl hcl hT
   have hex:execOp (jA ops E0 f a0).eval o=execOp (jA ops (E0.filter fun y=>(D x).contains y) f a0).eval o:=by
    refine execOp_congr o hs' fun z hz=>?_
    cases z with
    | tmp t=>
     refine oQ _ E0 a0 a0 rfl rfl fun y hy hk hdt=>?_
     have:=hlook y hy
     rw[hk,hdt] at this
     simp only[Bool.false_eq_true,false_or,Bool.not_eq_true',List.contains_eq_mem,decide_eq_false_iff_not] at this
     exact this (List.mem_append_left _ (List.mem_filterMap.2 ⟨.tmp t,by simpa using hz,rfl⟩))
    | _=>rfl
   have hd2:um P o (jA ops E0 f a0) w (fun v w'=>Sat W w' (T (lg f x v))):=by
    unfold um at hd1 ⊢
    rw[hex];exact hd1
   refine hd2.go ho hg' fun v w' hT'=>⟨fun hb=>hS hb _ w' hT',?_⟩
   show uT P ops Q S b n _ K _ w'
   have hdo:o.dst=aZ ops x:=by unfold aZ;rw[ho];rfl
   rw[hdo,←Jv E0 hx0 hpw hnd hfx]
   have hel:((E.map fun x=>(x,([]:List Nat))).erase (x,[]))=(E.erase x).map fun x=>(x,([]:List Nat)):=by
    clear hl hn hE hxm xQ hx'
    induction E with
    | nil=>rfl
    | cons y E ihE=>
     rw[List.map_cons,List.erase_cons,List.erase_cons]
     by_cases e:y=x
     ·subst e;simp
     ·have e1:(y==x)=false:=by simpa using e
      have e2:((y,([]:List Nat))==(x,[]))=false:=by simp[e]
      rw[e1,e2]
      simp only[Bool.false_eq_true,if_false,List.map_cons,ihE]
   rw[hel]
   refine ih (E.erase x) (lg f x v) w' (by rw[List.length_erase_of_mem hx',hl];rfl) (hn.erase x) (fun y=>?_) (fun y hy hys d hd=>?_) hT'
   ·rw[hn.mem_erase_iff,hE]
    by_cases e:y=x
    ·subst e;simp[gW]
    ·rw[aV e];simp[e]
   ·by_cases e:d=x
    ·subst e;rw[gW];rfl
    ·rw[aV e]
     by_cases e2:y=x
     ·subst e2;exact Bl d hd
     ·rw[aV e2] at hys
      exact hcl y hy hys d hd
end
end PA
namespace PA
open Go Go.RowKit
section
variable {P:Program} {ops:Array Oper} {Q:Exit→Act→World→Prop}
variable {S:World→Prop} {W:World}
def Zp (P:Program) (o:Oper) (a:Act) (w:World) (Post:Value→World→Prop):Prop:=um P o a w Post∨∃w',(execOp a.eval o).run P w=.ok .skip w'∧Post undef w'
theorem Zp.go {i:Nat} {o:Oper} {a:Act} {w:World} {Post:Value→World→Prop} (ho:ops[i]?=some o) (hg:o.guard=none) (h:Zp P o a w Post) {K:Act→World→Prop}
 (hK:∀v w',Post v w'→K (a.put o.dst v) w'):Go.wpOp P ops Q i K a w:=by
 rcases h with h|⟨w',h1,h2⟩
 ·exact h.go ho hg hK
 ·unfold Go.wpOp
  have hw:Region.wanted o (yielded ops a.tmps)=true:=by unfold Region.wanted;rw[hg]
  simp only[ho,hw,if_true]
  refine .inl ?_
  unfold Oper.wp
  rw[h1];exact hK undef w' h2
end
end PA
namespace Go.Proofs.YtgicfogmdfdjmaaGreatDoor
open Go.RowKit PA
theorem _root_.PA.OV {k:IntKind} {a b:Int} (h:a=b):Ending.returned (.int k a)=.returned (.int k b):=by rw[h]
def KpB (n B:Nat) (W W':World):Prop:=Below n W W'∧W'.cell? ⟨B,0,none⟩=W.cell? ⟨B,0,none⟩
theorem KpB.refl (n B:Nat) (W:World):KpB n B W W:=⟨Below.refl _ _,rfl⟩
theorem KpB.trans {n B:Nat} {W W' W'':World} (h:KpB n B W W') (k:KpB n B W' W''):KpB n B W W'':=⟨h.1.trans k.1,k.2.trans h.2⟩
attribute [local go_sem] Oper.semAt_some
end Go.Proofs.YtgicfogmdfdjmaaGreatDoor
namespace Go.Proofs.YtgicfogmdfdjmaaGreatDoor
open Go.RowKit PA
attribute [local go_sem] Oper.semAt_some
end Go.Proofs.YtgicfogmdfdjmaaGreatDoor
namespace Go.Proofs.YtgicfogmdfdjmaaGreatDoor
open Go.RowKit PA
attribute [local go_sem] Oper.semAt_some
def wv (x:Nat):Value:=.int .i64 (wrap64 (x:Int))
end Go.Proofs.YtgicfogmdfdjmaaGreatDoor
namespace Go.Proofs.YtgicfogmdfdjmaaGreatDoor
open Go.RowKit PA
end Go.Proofs.YtgicfogmdfdjmaaGreatDoor
namespace Go.Proofs.YtgicfogmdfdjmaaGreatDoor
open Go.RowKit PA
end Go.Proofs.YtgicfogmdfdjmaaGreatDoor
namespace Go.Proofs.YtgicfogmdfdjmaaGreatDoor
open Go.RowKit PA
theorem fJ:(Tryz.prog.info? 5).map (fun i=>(i.zero,i.size,i.bytes))=some (some (.int .u8 0),1,1):=by kernel_rfl
end Go.Proofs.YtgicfogmdfdjmaaGreatDoor
namespace Go.Proofs.YtgicfogmdfdjmaaGreatDoor
open Go.RowKit PA
theorem _root_.PA.Sat.Xd {W w:World} {A:aG} {E:Nat} {a:Option Addr} {n c:Nat} {xs:List Value} (h:Sat W w (sep (aK E 1 a n c xs) A)):∀b,a=some b→∀j u,xs[j]?=some u→w.cell? (b.add j)=some u:=by
 intro b hb j u hu
 obtain⟨g,e,hc⟩:=h.kD (fun e=>by rw[e] at hu;simp at hu)
 rw[hb] at e;cases e
 have:=hc j u hu
 unfold Addr.add
 split
 ·rename_i e;subst e;exact this
 ·simpa using this
end Go.Proofs.YtgicfogmdfdjmaaGreatDoor
namespace Go.Proofs.YtgicfogmdfdjmaaGreatDoor
open Go.RowKit PA
theorem Ir (n:Int) (w:World) (h1:-9223372036854775808≤n) (h2:n≤9223372036854775807):Calls Tryz.prog 133 #[.int .i64 n] w fun e w'=>e=.returned (.int .u64 (Lib.zigzag n:Nat))∧w=w':=by
 by_cases h0:n<0
 ·go_enter Tryz.func133,Tryz.ntmps133
  go_wp2
  go_ret
  exact⟨OV (by show 2*-(n+1)+1=_;unfold Lib.zigzag;rw[if_neg (by omega)];omega),rfl⟩
 ·go_enter Tryz.func133,Tryz.ntmps133
  go_wp2
  go_ret
  exact⟨OV (by show 2*n=_;unfold Lib.zigzag;rw[if_pos (by omega)];omega),rfl⟩
end Go.Proofs.YtgicfogmdfdjmaaGreatDoor
namespace Go.Proofs.YtgicfogmdfdjmaaGreatDoor
open Go.RowKit PA
set_option maxHeartbeats 1000000 in
theorem vJ {W w:World} {A:aG} (x:Nat) (hx:x<18446744073709551616) (h:Sat W w A):
 Calls Tryz.prog 132 #[.int .u64 (x:Nat)] w fun e w'=>∃a c,e=.returned (.slice a (Lib.uvarint x).length c)∧Sat W w' (sep (aK 5 1 a (Lib.uvarint x).length c ((Lib.uvarint x).map bv)) A):=by
 have HX:=ah hx
 clear hx
 go_enter Tryz.func132,Tryz.ntmps132
 go_wp2_with fail
 go_loopw [0,3] (fun nv ov wr=>∃(y:Nat) (pre:List UInt8) (a:Option Addr) (n c:Nat) (vs:List Value),nv=.int .u64 (y:Nat)∧ov=.slice a n c∧Hid (vs=pre.map bv∧n=pre.length∧y<18446744073709551616∧pre++Lib.uvarint y=Lib.uvarint x)∧Sat W wr (sep (aK 5 1 a n c vs) A)) (fun nv _ _=>(intOf nv).toNat)
 case atStart=>exact⟨x,[],none,0,0,[],rfl,rfl,ah ⟨rfl,rfl,HX.out,rfl⟩,h.cO _ _⟩
 case round=>
  clear h
  obtain⟨y,pre,a,n,c,vs,rfl,rfl,HY,hS⟩:=hrel
  have hnb:n≤10:=by
   have h1:=congrArg List.length HY.out.2.2.2
   have h2:=Lib.uvarint_length64 HX.out
   rw[HY.out.2.1];simp at h1;omega
  have HN:=ah hnb
  clear hnb
  by_cases hy:127<y
  ·have hyI:(127:Int)<(y:Int):=by omega
   obtain⟨z,hz⟩:∃z:UInt8,z=(y % 128+128).toUInt8:=⟨_,rfl⟩
   have hzv:z.toNat=y % 128+128:=by rw[hz];simp;omega
   obtain⟨q,hq⟩:∃q:Nat,q=y / 128:=⟨_,rfl⟩
   have aju:IntKind.u64.wrap ((y:Int) / 128)=(q:Int):=by rw[wraps_u64 _ (by omega) (by have:=HY.out.2.2.1;omega)];omega
   have HQ:=ah hq
   have hqy:q<y:=by omega
   have hB:=(hS.dD (.cells #[.int .u8 (128+(y:Int) % 128)] 5))
   clear hq
   have HZ:=ah hz
   have HZV:=ah hzv
   clear hz hzv hS
   go_wp2_with (at_builtin;(refine aJ rfl (.tmp 6) (.tmp 11) 129 rfl 5 1 1 (.int .u8 0) Tryz.underlying129 fJ rfl rfl hB rfl [.int .u8 (128+(y:Int) % 128)] rfl (by simp) (by intro b hb;cases hb;exact dS _ [_] _) (by simp[Value.oneCell']) (by have:=HN.out;omega) (by have:=HN.out;unfold maxLen;omega) ?_))
   intro a2 c2 w2 h2
   clear hB
   go_wp2_with fail
   go_roundw
   case rel=>
    refine⟨q,pre++[z],a2,n+1,c2,_,rfl,rfl,ah ⟨rfl,?_,by have:=HY.out.2.2.1;omega,?_⟩,?_⟩
    ·rw[dI,HY.out.2.1];rfl
    ·rw[List.append_assoc,←HY.out.2.2.2,Lib.uvarint_big (by omega:128≤y),←HZ.out,←HQ.out];rfl
    ·have e:(128+(y:Int) % 128)=((z.toNat:Nat):Int):=by have:=HZV.out;omega
     rw[e,HY.out.1] at h2
     rw[lS,List.map_cons,List.map_nil,bv];exact h2
   case measure=>simp[intOf];omega
  ·have hyB:decide ((127:Int)<(y:Int))=false:=by simp;omega
   have acK:=ah hy
   obtain⟨z,hz⟩:∃z:UInt8,z=y.toUInt8:=⟨_,rfl⟩
   have hzy:z.toNat=y:=by
    rw[hz];simp;omega
   have hor:((y:Int) % 256)=(z.toNat:Int):=by omega
   have hB:=(hS.dD (.cells #[.int .u8 (z.toNat:Int)] 5))
   have HZ:=ah hz
   clear hz hzy hy hS
   go_wp2_with (at_builtin;(refine aJ rfl (.tmp 15) (.tmp 18) 129 rfl 5 1 1 (.int .u8 0) Tryz.underlying129 fJ rfl rfl hB rfl [.int .u8 (z.toNat:Int)] rfl (by simp) (by intro b hb;cases hb;exact dS _ [_] _) (by simp[Value.oneCell']) (by have:=HN.out;omega) (by have:=HN.out;unfold maxLen;omega) ?_))
   intro a2 c2 w2 h2
   clear hB
   have e:Lib.uvarint x=pre++[z]:=by rw[←HY.out.2.2.2,Lib.uvarint_small (by have:=acK.out;omega),←HZ.out]
   have hl:n+1=(Lib.uvarint x).length:=by rw[e,dI,HY.out.2.1];rfl
   have h3:Sat W w2 (sep (aK 5 1 a2 (Lib.uvarint x).length c2 ((Lib.uvarint x).map bv)) A):=by
    rw[←hl,e,lS,List.map_cons,List.map_nil,bv,←HY.out.1];exact h2
   have HL:=ah hl
   clear e hl h2
   go_wp2_with fail
   go_ret
   exact⟨a2,c2,by rw[←HL.out];rfl,h3⟩
theorem iy {W w:World} {A:aG} (n:Int) (h1:-9223372036854775808≤n) (h2:n≤9223372036854775807) (h:Sat W w A):
 Calls Tryz.prog 93 #[.int .i64 n] w fun e w'=>∃a c,e=.returned (.slice a (PA.encI n).length c)∧Sat W w' (sep (aK 5 1 a (PA.encI n).length c ((PA.encI n).map bv)) A):=by
 have HZ:=ah (Lib.zigzag_lt h1 h2)
 go_enter Tryz.func93,Tryz.ntmps93
 go_wp2_with fail
 refine (Ir n _ h1 h2).mono ?_
 rintro e w2 ⟨rfl,rfl⟩
 go_wp2_with fail
 refine (vJ (Lib.zigzag n) HZ.out h).mono ?_
 rintro e w3 ⟨a,c,rfl,hS⟩
 go_wp2_with fail
 go_ret
 exact⟨a,c,rfl,hS⟩
theorem mg {W w:World} {A:aG} {I:Mem} (v:Value) (b:List UInt8) (h:Sat W w (sep (kn I) A)) (hv:fB.rel I [v] b) (hb:b.length≤1073741824):
 Calls Tryz.prog 95 #[v] w fun e w'=>∃a c,e=.returned (.slice a (encR b).length c)∧Sat W w' (sep (aK 5 1 a (encR b).length c ((encR b).map bv)) (sep (kn I) A)):=by
 obtain⟨a,c,rfl,hsw,hc⟩:=xK.1 hv
 obtain⟨n0,hn0⟩:=aC (b.length)
 rw[←hn0] at hb ⊢
 have hw1:IntKind.u64.wrap (n0:Int)=(n0:Nat):=wraps_u64 _ (by omega) (by omega)
 have HC:=ah hc
 have HN:=ah hn0
 have HB:=ah hb
 have HSW:=ah hsw
 clear hc hn0 hb hsw hv
 go_enter Tryz.func95,Tryz.ntmps95
 go_wp2_with fail
 refine (vJ n0 (by have:=HB.out;omega) h).mono ?_
 rintro e w2 ⟨a1,c1,rfl,hS⟩
 have hsrc:=vS HC.out hS.p1.ext
 obtain⟨m,hm⟩:=aC ((Lib.uvarint n0).length)
 obtain⟨vs,hvs⟩:=aC ((Lib.uvarint n0).map bv)
 have hmb:m≤10:=by rw[hm];exact Lib.uvarint_length64 (by have:=HB.out;omega)
 rw[←hm,←hvs] at hS
 rw[←hm]
 have HM:=ah hm
 have ZC:=ah hmb
 have HV:=ah hvs
 have gI:=ah hsrc
 clear hm hvs hmb hsrc h hw1
 go_wp2_with (at_builtin;(refine aJ rfl (.tmp 6) (.tmp 7) 129 rfl 5 1 1 (.int .u8 0) Tryz.underlying129 fJ rfl rfl hS rfl (b.map bv) (by rw[List.length_map,HN.out,Nat.mul_one]) (fun e=>by have:=HSW.out.2.2 e;have:=HSW.out.1;have:=HN.out;omega) gI.out (TJ b) (by have:=HB.out;have:=ZC.out;omega) (by have:=HB.out;have:=ZC.out;unfold maxLen;omega) ?_))
 intro a2 c2 w4 h4
 have hl:m+n0=(encR b).length:=by rw[encR,dI,←HN.out,←HM.out]
 have h5:Sat W w4 (sep (aK 5 1 a2 (encR b).length c2 ((encR b).map bv)) (sep (kn I) A)):=by
  rw[←hl,encR,lS,←HN.out,←HV.out];exact h4
 have HL:=ah hl
 clear hl h4 hS
 go_wp2_with fail
 go_ret
 exact⟨a2,c2,by rw[←HL.out];rfl,h5⟩
end Go.Proofs.YtgicfogmdfdjmaaGreatDoor
namespace PA
open Go Go.RowKit
structure nZ (w:World) (a:Option Addr) (n:Nat) (vs:List Value):Prop where
 len:vs.length=n*1
 nil:a=none→n=0
 src:∀b,a=some b→∀j u,vs[j]?=some u→w.cell? (b.add j)=some u
 one:∀u∈vs,u.oneCell'=true
theorem jh {W w:World} {A:aG} {E:Nat} {a:Option Addr} {n c:Nat} {bs:List UInt8} (h:Sat W w (sep (aK E 1 a n c (bs.map PA.bv)) A)):nZ w a n (bs.map PA.bv):=
 ⟨h.zW.1,fun e=>by have:=h.fA.2.2 e;have:=h.fA.1;omega,h.Xd,PA.TJ bs⟩
def gZ (l:List Int):List UInt8:=Lib.uvarint l.length++(l.map PA.encI).flatten
def vK (l:List Int) (k:Nat):List UInt8:=Lib.uvarint l.length++((l.take k).map PA.encI).flatten
theorem yD {l:List Int} {k:Nat} {r:Int} (h:l[k]?=some r):vK l (k+1)=vK l k++PA.encI r:=by
 unfold vK
 rw[List.take_add_one,h];simp
theorem Di (l:List Int):vK l l.length=gZ l:=by unfold vK gZ;rw[List.take_length]
theorem jX {r:Int} (h1:-9223372036854775808≤r) (h2:r≤9223372036854775807):(PA.encI r).length≤10:=by
 unfold PA.encI;exact Lib.uvarint_length64 (Lib.zigzag_lt h1 h2)
theorem Iu {l:List Int} (hn:l.length≤1048576) (hi:∀r∈l,-9223372036854775808≤r∧r≤9223372036854775807) (k:Nat):(vK l k).length≤10+10*k:=by
 induction k with
 | zero=>unfold vK;simp;exact Lib.uvarint_length64 (by omega)
 | succ k ih=>
  cases h:l[k]? with
  | none=>
   have e:vK l (k+1)=vK l k:=by unfold vK;rw[List.take_add_one,h];simp
   rw[e];omega
  | some r=>
   rw[yD h,dI]
   have:=jX (hi r (List.mem_iff_getElem?.2 ⟨k,h⟩)).1 (hi r (List.mem_iff_getElem?.2 ⟨k,h⟩)).2
   omega
end PA
namespace Go.Proofs.YtgicfogmdfdjmaaGreatDoor
open Go.RowKit PA
set_option maxHeartbeats 2000000 in
theorem Dj {W w:World} {A:aG} (a:Option Addr) (n c:Nat) (l:List Int) (hn:n=l.length) (hn2:l.length≤1048576) (hi:∀r∈l,-9223372036854775808≤r∧r≤9223372036854775807)
 (hc:∀w' B,Sat W w' (sep B A)→∀(k:Nat) r,l[k]?=some r→∃b o,a=some ⟨b,o,none⟩∧w'.cell? ⟨b,o+k,none⟩=some (.int .i64 r)) (h:Sat W w A):
 Calls Tryz.prog 168 #[.slice a n c] w fun e w'=>∃a' c',e=.returned (.slice a' (gZ l).length c')∧Sat W w' (sep (aK 5 1 a' (gZ l).length c' ((gZ l).map bv)) A):=by
 have HN:=ah (And.intro hn hn2)
 have HI:=ah hi
 have HC:=ah hc
 have hw1:IntKind.u64.wrap (n:Int)=(n:Nat):=wraps_u64 _ (by omega) (by omega)
 have H:=ah h
 obtain⟨E,hE⟩:=aC (gZ l)
 rw[←hE]
 have HE:=ah hE
 obtain⟨Po,iU⟩:∃P:Ending→World→Prop,P=fun e w'=>∃a' c',e=.returned (.slice a' E.length c')∧Sat W w' (sep (aK 5 1 a' E.length c' (E.map bv)) A):=⟨_,rfl⟩
 rw[←iU]
 have dZ:=ah iU
 have n63:(n:Int)≤9223372036854775807:=by omega
 clear hn hn2 hi hc h hE iU
 go_enter Tryz.func168,Tryz.ntmps168
 go_wp2_with fail
 refine (vJ n (by have:=HN.out;omega) H.out).mono ?_
 rintro e w2 ⟨a1,c1,rfl,h2⟩
 obtain⟨m,hm⟩:=aC ((Lib.uvarint n).length)
 obtain⟨vs,hvs⟩:=aC ((Lib.uvarint n).map bv)
 rw[←hm,←hvs] at h2
 rw[←hm]
 have HM:=ah (And.intro hm hvs)
 have H2:=ah h2
 clear hm hvs h2 H
 go_wp2_with fail
 go_loopw [3,4] (fun ov kv wr=>∃(k:Nat) (a':Option Addr) (n' c':Nat) (vs:List Value),ov=.slice a' n' c'∧kv=.int .i64 k∧k≤n∧Hid (n'=(vK l k).length∧vs=(vK l k).map bv)∧Sat W wr (sep (aK 5 1 a' n' c' vs) A)) (fun _ kv _=>n-(intOf kv).toNat)
 case atStart=>
  have e0:vK l 0=Lib.uvarint n:=by unfold vK;rw[HN.out.1];simp
  exact⟨0,a1,m,c1,vs,rfl,rfl,by omega,ah ⟨by rw[HM.out.1,e0],by rw[HM.out.2,e0]⟩,H2.out⟩
 case round=>
  obtain⟨k,a',n',c',vs',rfl,rfl,hk,HV,hS⟩:=hrel
  clear H2
  by_cases hlt:k<n
  ·have hltz:(k:Int)<(n:Int):=by omega
   obtain⟨r,hr⟩:∃r,l[k]?=some r:=⟨_,List.getElem?_eq_getElem (by have:=HN.out;omega)⟩
   obtain⟨b,o,rfl,j0⟩:=HC.out _ _ hS k r hr
   have HR:=ah (And.intro hr hlt)
   have HS:=ah hS
   clear hr hlt hS hk
   go_wp2_with fail
   refine (iy r (HI.out r (List.mem_iff_getElem?.2 ⟨k,HR.out.1⟩)).1 (HI.out r (List.mem_iff_getElem?.2 ⟨k,HR.out.1⟩)).2 HS.out).mono ?_
   rintro e w3 ⟨a2,c2,rfl,h3⟩
   have ku:=ah (jh h3)
   have h4:=h3.drop
   have hb1:n'≤10+10*k:=by rw[HV.out.1];exact Iu HN.out.2 HI.out k
   have hb2:(PA.encI r).length≤10:=jX (HI.out r (List.mem_iff_getElem?.2 ⟨k,HR.out.1⟩)).1 (HI.out r (List.mem_iff_getElem?.2 ⟨k,HR.out.1⟩)).2
   have hkb:k≤1048576:=by have:=HN.out;have:=HR.out.2;omega
   obtain⟨m2,hm2⟩:=aC ((PA.encI r).length)
   obtain⟨us,hus⟩:=aC ((PA.encI r).map bv)
   rw[←hm2,←hus] at ku
   rw[←hm2] at hb2 ⊢
   have HB:=ah (And.intro hb1 (And.intro hb2 hkb))
   have HU:=ah (And.intro hm2 hus)
   clear h3 hb1 hb2 hkb hm2 hus j0 HS
   go_wp2_with (at_builtin;(refine aJ rfl (.tmp 15) (.tmp 20) 129 rfl 5 1 1 (.int .u8 0) Tryz.underlying129 fJ rfl rfl h4 rfl us ku.out.len ku.out.nil ku.out.src ku.out.one (by have:=HB.out;omega) (by have:=HB.out;unfold maxLen;omega) ?_))
   intro a4 c4 w5 h5
   have H5:=ah h5
   clear h4 h5 ku
   go_wp2_with fail
   go_roundw
   case rel=>
    refine⟨k+1,a4,n'+m2,c4,_,rfl,by go_num,by have:=HR.out.2;omega,ah ⟨?_,?_⟩,H5.out⟩
    ·rw[yD HR.out.1,dI,HV.out.1,HU.out.1]
    ·rw[yD HR.out.1,lS,HV.out.2,HU.out.2]
   case measure=>simp[intOf];have:=HR.out.2;omega
  ·obtain rfl:k=n:=by omega
   have hE2:E=vK l k:=by rw[HE.out,HN.out.1,Di]
   have HF:Hid (n'=E.length∧vs'=E.map bv):=ah (by rw[hE2];exact HV.out)
   have HS:=ah hS
   clear hS hE2 HV
   go_wp2
   rw[dZ.out]
   exact⟨a',c',by rw[←HF.out.1];try rfl,by rw[←HF.out.1,←HF.out.2];exact HS.out⟩
end Go.Proofs.YtgicfogmdfdjmaaGreatDoor
namespace PA
open Go
theorem YP {n:Int} (h:n.natAbs≤1099511627776):okR ⟨n,1⟩=true:=mY n 1 (by omega) (by omega) h (by simp)
theorem Dt {n:Int} (h1:-8≤n) (h2:n≤8):jg ⟨n,1⟩=true:=by
 unfold jg
 rw[YP (by omega),decide_eq_true (by show n≤1073741824;omega),decide_eq_true (by show -1073741824≤n;omega)]
 rfl
theorem VX {x:Iv} (h:Gl x):kC x=true:=by
 obtain⟨h1,h2,h3,h4,h5⟩:=h
 obtain⟨ln,ld,hn,hd,lo,ho,li,hi⟩:=x
 simp only at h1 h2 h3 h4 h5
 subst h3 h4
 have e1:∀hn hd lo ho li hi,jg (Iv.lw ⟨ln,1,hn,hd,lo,ho,li,hi⟩)=true:=fun _ _ _ _ _ _=>Dt (n:=ln) (by omega) (by omega)
 rcases h5 with ⟨rfl,rfl,rfl,rfl⟩|⟨rfl,rfl,h6,h7⟩
 ·unfold kC;rw[e1];simp[zR,Iv.up]
 ·have e2:jg (Iv.up ⟨ln,1,hn,1,lo,ho,false,false⟩)=true:=Dt (n:=hn) (by omega) (by omega)
  have e3:eqR (Iv.lw ⟨ln,1,hn,1,lo,ho,false,false⟩) (Iv.up ⟨ln,1,hn,1,lo,ho,false,false⟩)=false:=by
   unfold eqR Iv.lw Iv.up
   rw[show (ln==hn)=false by simpa using (by omega:¬ln=hn)];rfl
  have e4:QS (Iv.lw ⟨ln,1,hn,1,lo,ho,false,false⟩) (Iv.up ⟨ln,1,hn,1,lo,ho,false,false⟩)=true:=by
   unfold QS Iv.lw Iv.up
   exact decide_eq_true (show ln*1<hn*1 by omega)
  unfold kC;rw[e1,e2,e3,e4];simp
theorem YQ {x:Iv} (h:kC x=true):Ae [x]=true:=by
 have e:Cc [x] 1=true:=by rw[yA,FC];simp[vG,h]
 unfold Ae WL
 rw[show ([x]:List Iv).length=1 from rfl,e];simp
theorem jY {f:Fm} (h:oN f):Fm.whole Ae f=true∧f.size=1∧f.deep=1∧f.iT=[f]∧f.parts=[f]:=by
 obtain⟨n,h1,h2,rfl⟩:=h
 refine⟨?_,by simp[Fm.size,Fm.sizes],by simp[Fm.deep,Fm.fG],by simp[Fm.iT],by simp[Fm.parts,Fm.op]⟩
 simp[Fm.whole,Fm.formed,Fm.dW];omega
theorem wZ {f:Fm} (h:Az f):Fm.whole Ae f=true∧f.size=1∧f.deep=1∧f.iT=[f]∧f.parts=[f]:=by
 obtain⟨n,x,h1,h2,hx,rfl⟩:=h
 refine⟨?_,by simp[Fm.size,Fm.sizes],by simp[Fm.deep,Fm.fG],by simp[Fm.iT],by simp[Fm.parts,Fm.op]⟩
 have:=YQ (VX hx)
 simp[Fm.whole,Fm.formed,Fm.dW,this];omega
structure FmG (f:Fm):Prop where
 wh:Fm.whole Ae f=true
 sz:f.size≤4
 dp:f.deep≤3
theorem VY {f:Fm} (h:cZ f):FmG f:=by
 cases h with
 | c h=>obtain⟨a,b,c,-⟩:=jY h;exact⟨a,by omega,by omega⟩
 | v h=>obtain⟨a,b,c,-⟩:=wZ h;exact⟨a,by omega,by omega⟩
 | OE h g=>obtain⟨a,b,c,-⟩:=jY h;obtain⟨a',b',c',-⟩:=wZ g;exact⟨by simp[Fm.whole,Fm.formed,Fm.dW,a,a'],by simp[Fm.size,Fm.sizes,b,b'],by simp[Fm.deep,Fm.fG,c,c']⟩
 | Xg h g=>obtain⟨a,b,c,-⟩:=jY h;obtain⟨a',b',c',-⟩:=wZ g;exact⟨by simp[Fm.whole,Fm.formed,Fm.dW,a,a'],by simp[Fm.size,Fm.sizes,b,b'],by simp[Fm.deep,Fm.fG,c,c']⟩
 | ZN h g=>obtain⟨a,b,c,-⟩:=jY h;obtain⟨a',b',c',-⟩:=jY g;exact⟨by simp[Fm.whole,Fm.formed,Fm.dW,a,a'],by simp[Fm.size,Fm.sizes,b,b'],by simp[Fm.deep,Fm.fG,c,c']⟩
 | ZO h g=>obtain⟨a,b,c,-⟩:=jY h;obtain⟨a',b',c',-⟩:=jY g;exact⟨by simp[Fm.whole,Fm.formed,Fm.dW,a,a'],by simp[Fm.size,Fm.sizes,b,b'],by simp[Fm.deep,Fm.fG,c,c']⟩
 | part h=>obtain⟨a,b,c,-⟩:=jY h;exact⟨by simp[Fm.whole,Fm.formed,Fm.dW,a],by simp[Fm.size,Fm.sizes,b],by simp[Fm.deep,Fm.fG,c]⟩
 | ZP h g=>obtain⟨a,b,c,-⟩:=jY h;obtain⟨a',b',c',-⟩:=wZ g;exact⟨by simp[Fm.whole,Fm.formed,Fm.dW,a,a'],by simp[Fm.size,Fm.sizes,b,b'],by simp[Fm.deep,Fm.fG,c,c']⟩
structure AltG (n:Nat) (f:Fm):Prop where
 wh:Fm.dW Ae f.parts=true
 sz:Fm.sizes f.parts≤n
 dp:Fm.fG f.parts≤3
theorem AltG.up {m n:Nat} {f:Fm} (h:AltG m f) (hmn:m≤n):AltG n f:=⟨h.wh,Nat.le_trans h.sz hmn,h.dp⟩
theorem zy {i:Nat} {r:List Int} (h:kY i r):r.length≤2∧qE r i=true:=by
 rcases h with rfl|⟨j,hj,rfl⟩|⟨rfl,rfl⟩
 ·exact⟨by simp,rfl⟩
 ·refine⟨by simp,?_⟩
  unfold qE
  rw[show ([(j:Int)]:List Int).length=1 from rfl,vH,Ci]
  simp[qC];omega
 ·exact⟨by simp,by decide⟩
end PA
