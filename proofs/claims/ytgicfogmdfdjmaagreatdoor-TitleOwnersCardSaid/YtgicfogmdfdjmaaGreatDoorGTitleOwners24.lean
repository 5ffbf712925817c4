/- Part of a proof. -/
import Derived.Test.YtgicfogmdfdjmaaGreatDoorGTitleOwners14
namespace Go.Proofs.YtgicfogmdfdjmaaGreatDoor
open Go.RowKit PA
set_option maxHeartbeats 1000000 in
theorem uI {W w:World} {A:aH} (x:Nat) (hx:x<18446744073709551616) (h:Sat W w A):
 Calls Tryz.prog 132 #[.int .u64 (x:Nat)] w fun e w'=>∃a c,e=.returned (.slice a (Lib.uvarint x).length c)∧Sat W w' (sep (aN 5 1 a (Lib.uvarint x).length c ((Lib.uvarint x).map bv)) A):=by
 have HX:=ah hx
 clear hx
 go_enter Tryz.func132,Tryz.ntmps132
 go_wp2_with fail
 go_loopw [0,3] (fun nv ov wr=>∃(y:Nat) (pre:List UInt8) (a:Option Addr) (n c:Nat) (vs:List Value),nv=.int .u64 (y:Nat)∧ov=.slice a n c∧Hid (vs=pre.map bv∧n=pre.length∧y<18446744073709551616∧pre++Lib.uvarint y=Lib.uvarint x)∧Sat W wr (sep (aN 5 1 a n c vs) A)) (fun nv _ _=>(intOf nv).toNat)
 case atStart=>exact⟨x,[],none,0,0,[],rfl,rfl,ah ⟨rfl,rfl,HX.out,rfl⟩,h.dD _ _⟩
 case round=>
  clear h
  obtain⟨y,pre,a,n,c,vs,rfl,rfl,HY,hS⟩:=hrel
  have hnb:n≤10:=by
   have h1:=congrArg List.length HY.out.2.2.2
   have h2:=Lib.uvarint_length64 HX.out
   rw[HY.out.2.1];simp at h1;omega
  have HN:=ah hnb
  clear hnb
  by_cases hy:127<y
  ·have hyI:(127:Int)<(y:Int):=by omega
   obtain⟨z,hz⟩:∃z:UInt8,z=(y % 128+128).toUInt8:=⟨_,rfl⟩
   have hzv:z.toNat=y % 128+128:=by rw[hz];simp;omega
   obtain⟨q,hq⟩:∃q:Nat,q=y / 128:=⟨_,rfl⟩
   have ag7:IntKind.u64.wrap ((y:Int) / 128)=(q:Int):=by rw[wraps_u64 _ (by omega) (by have:=HY.out.2.2.1;omega)];omega
   have HQ:=ah hq
   have hqy:q<y:=by omega
   have hB:=(hS.dM (.cells #[.int .u8 (128+(y:Int) % 128)] 5))
   clear hq
   have HZ:=ah hz
   have HZV:=ah hzv
   clear hz hzv hS
   go_wp2_with (at_builtin;(refine aJ rfl (.tmp 6) (.tmp 11) 129 rfl 5 1 1 (.int .u8 0) Tryz.underlying129 fG rfl rfl hB rfl [.int .u8 (128+(y:Int) % 128)] rfl (by simp) (by intro b hb;cases hb;exact fE _ [_] _) (by simp[Value.oneCell']) (by have:=HN.out;omega) (by have:=HN.out;unfold maxLen;omega) ?_))
   intro a2 c2 w2 h2
   clear hB
   go_wp2_with fail
   go_roundw
   case rel=>
    refine⟨q,pre++[z],a2,n+1,c2,_,rfl,rfl,ah ⟨rfl,?_,by have:=HY.out.2.2.1;omega,?_⟩,?_⟩
    ·rw[List.length_append,HY.out.2.1];rfl
    ·rw[List.append_assoc,←HY.out.2.2.2,Lib.uvarint_big (by omega:128≤y),←HZ.out,←HQ.out];rfl
    ·have e:(128+(y:Int) % 128)=((z.toNat:Nat):Int):=by have:=HZV.out;omega
     rw[e,HY.out.1] at h2
     rw[List.map_append,List.map_cons,List.map_nil,bv];exact h2
   case measure=>simp[intOf];omega
  ·have hyB:decide ((127:Int)<(y:Int))=false:=by simp;omega
   have aat:=ah hy
   obtain⟨z,hz⟩:∃z:UInt8,z=y.toUInt8:=⟨_,rfl⟩
   have hzy:z.toNat=y:=by
    rw[hz];simp;omega
   have hor:((y:Int) % 256)=(z.toNat:Int):=by omega
   have hB:=(hS.dM (.cells #[.int .u8 (z.toNat:Int)] 5))
   have HZ:=ah hz
   clear hz hzy hy hS
   go_wp2_with (at_builtin;(refine aJ rfl (.tmp 15) (.tmp 18) 129 rfl 5 1 1 (.int .u8 0) Tryz.underlying129 fG rfl rfl hB rfl [.int .u8 (z.toNat:Int)] rfl (by simp) (by intro b hb;cases hb;exact fE _ [_] _) (by simp[Value.oneCell']) (by have:=HN.out;omega) (by have:=HN.out;unfold maxLen;omega) ?_))
   intro a2 c2 w2 h2
   clear hB
   have e:Lib.uvarint x=pre++[z]:=by rw[←HY.out.2.2.2,Lib.uvarint_small (by have:=aat.out;omega),←HZ.out]
   have hl:n+1=(Lib.uvarint x).length:=by rw[e,List.length_append,HY.out.2.1];rfl
   have h3:Sat W w2 (sep (aN 5 1 a2 (Lib.uvarint x).length c2 ((Lib.uvarint x).map bv)) A):=by
    rw[←hl,e,List.map_append,List.map_cons,List.map_nil,bv,←HY.out.1];exact h2
   have HL:=ah hl
   clear e hl h2
   go_wp2_with fail
   go_ret
   exact⟨a2,c2,by rw[←HL.out];rfl,h3⟩
theorem gZ {W w:World} {A:aH} (n:Int) (h1:-9223372036854775808≤n) (h2:n≤9223372036854775807) (h:Sat W w A):
 Calls Tryz.prog 93 #[.int .i64 n] w fun e w'=>∃a c,e=.returned (.slice a (PA.encI n).length c)∧Sat W w' (sep (aN 5 1 a (PA.encI n).length c ((PA.encI n).map bv)) A):=by
 have HZ:=ah (Lib.zigzag_lt h1 h2)
 go_enter Tryz.func93,Tryz.ntmps93
 go_wp2_with fail
 refine (Gl n _ h1 h2).mono ?_
 rintro e w2 ⟨rfl,rfl⟩
 go_wp2_with fail
 refine (uI (Lib.zigzag n) HZ.out h).mono ?_
 rintro e w3 ⟨a,c,rfl,hS⟩
 go_wp2_with fail
 go_ret
 exact⟨a,c,rfl,hS⟩
theorem lK {W w:World} {A:aH} {I:Mem} (v:Value) (b:List UInt8) (h:Sat W w (sep (kn I) A)) (hv:eP.rel I [v] b) (hb:b.length≤1073741824):
 Calls Tryz.prog 95 #[v] w fun e w'=>∃a c,e=.returned (.slice a (encR b).length c)∧Sat W w' (sep (aN 5 1 a (encR b).length c ((encR b).map bv)) (sep (kn I) A)):=by
 obtain⟨a,c,rfl,hsw,hc⟩:=wR.1 hv
 obtain⟨n0,hn0⟩:=aG (b.length)
 rw[←hn0] at hb ⊢
 have hw1:IntKind.u64.wrap (n0:Int)=(n0:Nat):=wraps_u64 _ (by omega) (by omega)
 have HC:=ah hc
 have HN:=ah hn0
 have HB:=ah hb
 have YX:=ah hsw
 clear hc hn0 hb hsw hv
 go_enter Tryz.func95,Tryz.ntmps95
 go_wp2_with fail
 refine (uI n0 (by have:=HB.out;omega) h).mono ?_
 rintro e w2 ⟨a1,c1,rfl,hS⟩
 have hsrc:=uS HC.out hS.p1.ext
 obtain⟨m,hm⟩:=aG ((Lib.uvarint n0).length)
 obtain⟨vs,hvs⟩:=aG ((Lib.uvarint n0).map bv)
 have hmb:m≤10:=by rw[hm];exact Lib.uvarint_length64 (by have:=HB.out;omega)
 rw[←hm,←hvs] at hS
 rw[←hm]
 have HM:=ah hm
 have WU:=ah hmb
 have HV:=ah hvs
 have jJ:=ah hsrc
 clear hm hvs hmb hsrc h hw1
 go_wp2_with (at_builtin;(refine aJ rfl (.tmp 6) (.tmp 7) 129 rfl 5 1 1 (.int .u8 0) Tryz.underlying129 fG rfl rfl hS rfl (b.map bv) (by rw[List.length_map,HN.out,Nat.mul_one]) (fun e=>by have:=YX.out.2.2 e;have:=YX.out.1;have:=HN.out;omega) jJ.out (Qx b) (by have:=HB.out;have:=WU.out;omega) (by have:=HB.out;have:=WU.out;unfold maxLen;omega) ?_))
 intro a2 c2 w4 h4
 have hl:m+n0=(encR b).length:=by rw[encR,List.length_append,←HN.out,←HM.out]
 have h5:Sat W w4 (sep (aN 5 1 a2 (encR b).length c2 ((encR b).map bv)) (sep (kn I) A)):=by
  rw[←hl,encR,List.map_append,←HN.out,←HV.out];exact h4
 have HL:=ah hl
 clear hl h4 hS
 go_wp2_with fail
 go_ret
 exact⟨a2,c2,by rw[←HL.out];rfl,h5⟩
end Go.Proofs.YtgicfogmdfdjmaaGreatDoor
namespace PA
open Go Go.RowKit
structure ng (w:World) (a:Option Addr) (n:Nat) (vs:List Value):Prop where
 len:vs.length=n*1
 nil:a=none→n=0
 src:∀b,a=some b→∀j u,vs[j]?=some u→w.cell? (b.add j)=some u
 one:∀u∈vs,u.oneCell'=true
theorem iU {W w:World} {A:aH} {E:Nat} {a:Option Addr} {n c:Nat} {bs:List UInt8} (h:Sat W w (sep (aN E 1 a n c (bs.map PA.bv)) A)):ng w a n (bs.map PA.bv):=
 ⟨h.zh.1,fun e=>by have:=h.eH.2.2 e;have:=h.eH.1;omega,h.Uw,PA.Qx bs⟩
def gV (l:List Int):List UInt8:=Lib.uvarint l.length++(l.map PA.encI).flatten
def uJ (l:List Int) (k:Nat):List UInt8:=Lib.uvarint l.length++((l.take k).map PA.encI).flatten
theorem xK {l:List Int} {k:Nat} {r:Int} (h:l[k]?=some r):uJ l (k+1)=uJ l k++PA.encI r:=by
 unfold uJ
 rw[List.take_add_one,h];simp
theorem BD (l:List Int):uJ l l.length=gV l:=by unfold uJ gV;rw[List.take_length]
theorem jK {r:Int} (h1:-9223372036854775808≤r) (h2:r≤9223372036854775807):(PA.encI r).length≤10:=by
 unfold PA.encI;exact Lib.uvarint_length64 (Lib.zigzag_lt h1 h2)
theorem Gm {l:List Int} (hn:l.length≤1048576) (hi:∀r∈l,-9223372036854775808≤r∧r≤9223372036854775807) (k:Nat):(uJ l k).length≤10+10*k:=by
 induction k with
 | zero=>unfold uJ;simp;exact Lib.uvarint_length64 (by omega)
 | succ k ih=>
  cases h:l[k]? with
  | none=>
   have e:uJ l (k+1)=uJ l k:=by unfold uJ;rw[List.take_add_one,h];simp
   rw[e];omega
  | some r=>
   rw[xK h,List.length_append]
   have:=jK (hi r (List.mem_iff_getElem?.2 ⟨k,h⟩)).1 (hi r (List.mem_iff_getElem?.2 ⟨k,h⟩)).2
   omega
end PA
namespace Go.Proofs.YtgicfogmdfdjmaaGreatDoor
open Go.RowKit PA
set_option maxHeartbeats 2000000 in
theorem BF {W w:World} {A:aH} (a:Option Addr) (n c:Nat) (l:List Int) (hn:n=l.length) (hn2:l.length≤1048576) (hi:∀r∈l,-9223372036854775808≤r∧r≤9223372036854775807)
 (hc:∀w' B,Sat W w' (sep B A)→∀(k:Nat) r,l[k]?=some r→∃b o,a=some ⟨b,o,none⟩∧w'.cell? ⟨b,o+k,none⟩=some (.int .i64 r)) (h:Sat W w A):
 Calls Tryz.prog 168 #[.slice a n c] w fun e w'=>∃a' c',e=.returned (.slice a' (gV l).length c')∧Sat W w' (sep (aN 5 1 a' (gV l).length c' ((gV l).map bv)) A):=by
 have HN:=ah (And.intro hn hn2)
 have HI:=ah hi
 have HC:=ah hc
 have hw1:IntKind.u64.wrap (n:Int)=(n:Nat):=wraps_u64 _ (by omega) (by omega)
 have H:=ah h
 obtain⟨E,hE⟩:=aG (gV l)
 rw[←hE]
 have HE:=ah hE
 obtain⟨Po,iJ⟩:∃P:Ending→World→Prop,P=fun e w'=>∃a' c',e=.returned (.slice a' E.length c')∧Sat W w' (sep (aN 5 1 a' E.length c' (E.map bv)) A):=⟨_,rfl⟩
 rw[←iJ]
 have dX:=ah iJ
 have n63:(n:Int)≤9223372036854775807:=by omega
 clear hn hn2 hi hc h hE iJ
 go_enter Tryz.func168,Tryz.ntmps168
 go_wp2_with fail
 refine (uI n (by have:=HN.out;omega) H.out).mono ?_
 rintro e w2 ⟨a1,c1,rfl,h2⟩
 obtain⟨m,hm⟩:=aG ((Lib.uvarint n).length)
 obtain⟨vs,hvs⟩:=aG ((Lib.uvarint n).map bv)
 rw[←hm,←hvs] at h2
 rw[←hm]
 have HM:=ah (And.intro hm hvs)
 have H2:=ah h2
 clear hm hvs h2 H
 go_wp2_with fail
 go_loopw [3,4] (fun ov kv wr=>∃(k:Nat) (a':Option Addr) (n' c':Nat) (vs:List Value),ov=.slice a' n' c'∧kv=.int .i64 k∧k≤n∧Hid (n'=(uJ l k).length∧vs=(uJ l k).map bv)∧Sat W wr (sep (aN 5 1 a' n' c' vs) A)) (fun _ kv _=>n-(intOf kv).toNat)
 case atStart=>
  have e0:uJ l 0=Lib.uvarint n:=by unfold uJ;rw[HN.out.1];simp
  exact⟨0,a1,m,c1,vs,rfl,rfl,by omega,ah ⟨by rw[HM.out.1,e0],by rw[HM.out.2,e0]⟩,H2.out⟩
 case round=>
  obtain⟨k,a',n',c',vs',rfl,rfl,hk,HV,hS⟩:=hrel
  clear H2
  by_cases hlt:k<n
  ·have hltz:(k:Int)<(n:Int):=by omega
   obtain⟨r,hr⟩:∃r,l[k]?=some r:=⟨_,List.getElem?_eq_getElem (by have:=HN.out;omega)⟩
   obtain⟨b,o,rfl,j0⟩:=HC.out _ _ hS k r hr
   have HR:=ah (And.intro hr hlt)
   have HS:=ah hS
   clear hr hlt hS hk
   go_wp2_with fail
   refine (gZ r (HI.out r (List.mem_iff_getElem?.2 ⟨k,HR.out.1⟩)).1 (HI.out r (List.mem_iff_getElem?.2 ⟨k,HR.out.1⟩)).2 HS.out).mono ?_
   rintro e w3 ⟨a2,c2,rfl,h3⟩
   have jQ:=ah (iU h3)
   have h4:=h3.drop
   have hb1:n'≤10+10*k:=by rw[HV.out.1];exact Gm HN.out.2 HI.out k
   have hb2:(PA.encI r).length≤10:=jK (HI.out r (List.mem_iff_getElem?.2 ⟨k,HR.out.1⟩)).1 (HI.out r (List.mem_iff_getElem?.2 ⟨k,HR.out.1⟩)).2
   have hkb:k≤1048576:=by have:=HN.out;have:=HR.out.2;omega
   obtain⟨m2,hm2⟩:=aG ((PA.encI r).length)
   obtain⟨us,hus⟩:=aG ((PA.encI r).map bv)
   rw[←hm2,←hus] at jQ
   rw[←hm2] at hb2 ⊢
   have HB:=ah (And.intro hb1 (And.intro hb2 hkb))
   have HU:=ah (And.intro hm2 hus)
   clear h3 hb1 hb2 hkb hm2 hus j0 HS
   go_wp2_with (at_builtin;(refine aJ rfl (.tmp 15) (.tmp 20) 129 rfl 5 1 1 (.int .u8 0) Tryz.underlying129 fG rfl rfl h4 rfl us jQ.out.len jQ.out.nil jQ.out.src jQ.out.one (by have:=HB.out;omega) (by have:=HB.out;unfold maxLen;omega) ?_))
   intro a4 c4 w5 h5
   have H5:=ah h5
   clear h4 h5 jQ
   go_wp2_with fail
   go_roundw
   case rel=>
    refine⟨k+1,a4,n'+m2,c4,_,rfl,by go_num,by have:=HR.out.2;omega,ah ⟨?_,?_⟩,H5.out⟩
    ·rw[xK HR.out.1,List.length_append,HV.out.1,HU.out.1]
    ·rw[xK HR.out.1,List.map_append,HV.out.2,HU.out.2]
   case measure=>simp[intOf];have:=HR.out.2;omega
  ·obtain rfl:k=n:=by omega
   have hE2:E=uJ l k:=by rw[HE.out,HN.out.1,BD]
   have HF:Hid (n'=E.length∧vs'=E.map bv):=ah (by rw[hE2];exact HV.out)
   have HS:=ah hS
   clear hS hE2 HV
   go_wp2
   rw[dX.out]
   exact⟨a',c',by rw[←HF.out.1];try rfl,by rw[←HF.out.1,←HF.out.2];exact HS.out⟩
end Go.Proofs.YtgicfogmdfdjmaaGreatDoor
namespace PA
open Go
def OL (a b:Rt):Bool:=decide (a.n*b.d<b.n*a.d)
def iT (r:Rt):Bool:=okR r&&(decide (r.n≤1073741824)&&(decide (-1073741824≤r.n)&&decide (r.d≤32768)))
def Iv.lw (x:Iv):Rt:=⟨x.ln,x.ld⟩
def Iv.up (x:Iv):Rt:=⟨x.hn,x.hd⟩
def zR (r:Rt):Bool:=r.n==0&&r.d==0
def eqR (a b:Rt):Bool:=a.n==b.n&&a.d==b.d
def jS (x:Iv):Bool:=
 if ((x.li&&(!zR x.lw||x.lo))||(x.hi&&(!zR x.up||x.ho)))=true then false
 else if ((!x.li&&!iT x.lw)||(!x.hi&&!iT x.up))=true then false
 else if (x.li||x.hi)=true then true
 else if eqR x.lw x.up=true then !x.lo&&!x.ho else OL x.lw x.up
def uD (a b:Iv):Bool:=
 if (a.hi||b.li)=true then false
 else if eqR a.up b.lw=true then a.ho&&b.lo else OL a.up b.lw
def uF (l:List Iv) (j:Nat):Bool:=
 match l[j]? with
 | none=>true
 | some x=>jS x&&(match j with|0=>true|j'+1=>match l[j']? with|none=>true|some y=>uD y x)
def AQ (l:List Iv) (n:Nat):Bool:=(List.range n).all (uF l)
theorem Ef (l:List Iv):AQ l 0=true:=rfl
theorem xH (l:List Iv) (n:Nat):AQ l (n+1)=(AQ l n&&uF l n):=by
 unfold AQ;rw[List.range_succ,List.all_append];simp
theorem AU {l:List Iv} {n i:Nat} (hi:i<n) (h:uF l i=false):AQ l n=false:=by
 unfold AQ
 rw[List.all_eq_false]
 exact⟨i,List.mem_range.2 hi,by rw[h];decide⟩
def TV (l:List Iv):Int:=if AQ l l.length=false then 1 else if 32<l.length then 4 else 0
def zq (l:List Iv):Bool:=decide (TV l=0)
def o8 (l:List Int) (i:Nat) (k:Nat):Bool:=
 match l[k]? with
 | none=>true
 | some r=>decide (0≤r)&&(decide (r<(i:Int))&&(match k with|0=>true|k'+1=>match l[k']? with|none=>true|some q=>decide (q<r)))
def sQ (l:List Int) (i n:Nat):Bool:=(List.range n).all (o8 l i)
theorem AV (l:List Int) (i:Nat):sQ l i 0=true:=rfl
theorem uG (l:List Int) (i n:Nat):sQ l i (n+1)=(sQ l i n&&o8 l i n):=by
 unfold sQ;rw[List.range_succ,List.all_append];simp
theorem OM {l:List Int} {i n k:Nat} (hk:k<n) (h:o8 l i k=false):sQ l i n=false:=by
 unfold sQ
 rw[List.all_eq_false]
 exact⟨k,List.mem_range.2 hk,by rw[h];decide⟩
def o9 (l:List Int) (i:Nat):Bool:=sQ l i l.length
theorem Eh {l:List Int} {i:Nat} (h:o9 l i=true):∀r∈l,0≤r∧r<(i:Int):=by
 intro r hr
 obtain⟨k,hk,rfl⟩:=List.mem_iff_getElem.1 hr
 unfold o9 sQ at h
 have:=List.all_eq_true.1 h k (List.mem_range.2 hk)
 unfold o8 at this
 rw[List.getElem?_eq_getElem hk] at this
 simp only[Bool.and_eq_true,decide_eq_true_eq] at this
 exact⟨this.1,this.2.1⟩
def pV (f:Fm):Int:=f.valid zq
def yT:Nat→List Cl→Int
 | _,[]=>0
 | i,c::l=>if 8<c.refs.length then 4 else if o9 c.refs i=false then 1 else if pV c.body≠0 then pV c.body else yT (i+1) l
def AX (l:List Cl):Int:=if 32<l.length then 4 else yT 0 l
theorem Np:∀(l:List Cl) (i:Nat),yT i l=0→∀(k:Nat) (hk:k<l.length),l[k].refs.length≤8∧o9 l[k].refs (i+k)=true∧pV l[k].body=0
 | c::l,i,h,k,hk=>by
  unfold yT at h
  split at h
  ·cases h
  ·rename_i h1
   split at h
   ·cases h
   ·rename_i h2
    split at h
    ·rename_i h3;exact absurd h h3
    ·rename_i h3
     cases k with
     | zero=>exact⟨by simpa using h1,by simpa using h2,by simpa using h3⟩
     | succ k=>
      have:=Np l (i+1) h k (by simpa using hk)
      simp only[List.getElem_cons_succ]
      rw[show i+(k+1)=i+1+k by omega]
      exact this
theorem KX {l:List Cl} (h:AX l=0):l.length≤32∧∀(k:Nat) (hk:k<l.length),l[k].refs.length≤8∧o9 l[k].refs k=true∧pV l[k].body=0:=by
 unfold AX at h
 split at h
 ·cases h
 ·rename_i h1
  refine⟨by omega,fun k hk=>?_⟩
  have:=Np l 0 h k hk
  rwa [Nat.zero_add] at this
mutual
def Fm.iI:Fm→List Fm
 | .mk o n i k=>if o=5 then Fm.dQ k else [.mk o n i k]
def Fm.dQ:List Fm→List Fm
 | []=>[]
 | f::l=>Fm.iI f++Fm.dQ l
end
def Fm.parts (f:Fm):List Fm:=if f.op=4 then f.kids else [f]
theorem Fm.AY:∀(l:List Fm) (f:Fm),Fm.dQ (l++[f])=Fm.dQ l++Fm.iI f
 | [],f=>by simp[Fm.dQ]
 | g::l,f=>by rw[List.cons_append,Fm.dQ,Fm.dQ,Fm.AY l f,List.append_assoc]
theorem Fm.KY (l:List Fm) (i:Nat) (hi:i<l.length):Fm.dQ (l.take (i+1))=Fm.dQ (l.take i)++Fm.iI l[i]:=by
 rw[List.take_succ_eq_append_getElem hi,Fm.AY]
def kP (a b:Fm):Fm:=.mk 4 0 [] (a.parts++b.parts)
def fO:List Fm→List Fm→Option (List Fm)
 | [],_=>some []
 | a::x,t=>if (t.all fun b=>decide (pV (kP a b)=0))=true then (fO x t).map (t.map (kP a)++·) else none
def iH (of:Nat→Option (List Fm)) (own:List Fm):List Int→List Fm→Option (List Fm)
 | [],out=>some out
 | r::rs,out=>
  match of r.toNat with
  | none=>none
  | some x=>if 64<out.length+x.length*own.length then none else
   match fO x own with
   | none=>none
   | some y=>iH of own rs (out++y)
def KZ (of:Nat→Option (List Fm)) (c:Cl):Option (List Fm):=
 if c.refs=[] then (if c.body.iI.length≤64 then some c.body.iI else none) else iH of c.body.iI c.refs []
def lG (l:List Cl) (k:Nat):Option (List Fm):=
 match l[k]? with
 | none=>none
 | some c=>KZ (fun r=>if r<k then lG l r else none) c
termination_by k
theorem oJ:∀{x t y:List Fm},fO x t=some y→y.length=x.length*t.length
 | [],t,y,h=>by cases h;simp
 | a::x,t,y,h=>by
  unfold fO at h
  split at h
  ·cases hc:fO x t with
   | none=>rw[hc] at h;cases h
   | some z=>
    rw[hc] at h
    cases h
    rw[List.length_append,List.length_map,oJ hc,List.length_cons,Nat.add_mul];omega
  ·cases h
theorem yG {of:Nat→Option (List Fm)} {own:List Fm}:∀{rs:List Int} {out y:List Fm},out.length≤64→iH of own rs out=some y→y.length≤64
 | [],out,y,h0,h=>by cases h;exact h0
 | r::rs,out,y,h0,h=>by
  unfold iH at h
  split at h
  ·cases h
  ·split at h
   ·cases h
   ·rename_i h1
    split at h
    ·cases h
    ·rename_i z hz
     have hl:=oJ hz
     exact yG (by rw[List.length_append,hl];omega) h
theorem IY {l:List Cl} {k:Nat} {y:List Fm} (h:lG l k=some y):y.length≤64:=by
 unfold lG at h
 split at h
 ·cases h
 ·unfold KZ at h
  split at h
  ·split at h
   ·cases h;assumption
   ·cases h
  ·exact yG (by simp) h
def vP:List Fm→Int
 | []=>0
 | f::l=>if pV f≠0 then pV f else vP l
def oq (l:List Cl):Nat→Option Nat
 | 0=>some 0
 | n+1=>match oq l n with
  | none=>none
  | some s=>match lG l n with
   | none=>none
   | some y=>some (s+y.length)
def TW (td:List Fm) (tc:List Cl):Int:=
 if 16<td.length then 4 else if vP td≠0 then vP td else if AX tc≠0 then AX tc else
  match oq tc tc.length with
  | none=>4
  | some s=>if 128<(Fm.dQ td).length+s then 4 else 0
def bQ (n lo hi:Int):Bool:=decide (lo≤n)&&decide (n≤hi)
def cZ (k:Int):Bool:=decide (k≠5)&&(decide (k≠19)&&(decide (k≠20)&&decide (k≠21)))
def RJ (x:Pa):Pa:=
 { x with
  f:=if cZ x.k=true then 0 else x.f
  o:=if x.k=0∨x.k=20∨x.k=21 then 0 else x.o
  p:=if x.k=0∨x.k=4∨x.k=5∨x.k=12∨x.k=14∨x.k=16∨x.k=17 then 0 else x.p
  q:=if x.k=0∨x.k=4∨x.k=13∨x.k=16∨x.k=17 then 0 else x.q
  u:=if x.k=4∨x.k=5∨x.k=6∨x.k=7∨x.k=8∨x.k=9∨x.k=13∨x.k=17∨x.k=18∨x.k=20∨x.k=21 then 0 else x.u
  m:=if x.k=4∨x.k=8∨x.k=21 then 0 else x.m
  sn:=if x.k=16 then 0 else x.sn
  sd:=if x.k=16 then 0 else x.sd
  td:=if x.k=0 then [] else x.td
  tc:=if x.k=0 then [] else x.tc
  cl:=if x.k=3∨x.k=15∨(x.k=13∧x.u=2) then [] else x.cl
  ea:=if x.k=0 then [] else x.ea
  fx:=if x.k=19 then Fm.zero else x.fx }
def FK (x:Pa):Bool:=
 decide (x.f=0)&&(decide (x.o=0)&&(decide (x.p=0)&&(decide (x.q=0)&&(decide (x.u=0)&&(decide (x.m=0)&&(decide (x.sn=0)&&(decide (x.sd=0) &&
 (decide (x.fx.op=0)&&(decide (x.fx.num=0)&&(decide (x.fx.ins.length=0)&&(decide (x.fx.kids.length=0) &&
 (decide (x.td.length=0)&&(decide (x.tc.length=0)&&(decide (x.cl.length=0)&&decide (x.ea.length=0)))))))))))))))
def OO (f:Int) (l:List Ea) (j:Nat):Bool:=
 match l[j]? with
 | none=>true
 | some e=>bQ e.file 0 4095&&(decide (e.file≠f)&&(bQ e.day 0 131072&&!((l.take j).any fun g=>decide (g.file=e.file))))
def Dl (f:Int) (l:List Ea) (n:Nat):Bool:=(List.range n).all (OO f l)
theorem OQ (f:Int) (l:List Ea) (n:Nat):Dl f l (n+1)=(Dl f l n&&OO f l n):=by
 unfold Dl;rw[List.range_succ,List.all_append];simp
theorem RN {f:Int} {l:List Ea} {n i:Nat} (hi:i<n) (h:OO f l i=false):Dl f l n=false:=by
 unfold Dl
 rw[List.all_eq_false]
 exact⟨i,List.mem_range.2 hi,by rw[h];decide⟩
def zx (x:Pa):Bool:=
 if bQ x.o 0 11=false∨bQ x.p 1 4095=false∨bQ x.q (-1) 4095=false∨x.q=x.f∨8<x.ea.length∨TW x.td x.tc≠0 then false else Dl x.f x.ea x.ea.length
def mX (l:List Cl):Bool:=decide (0<l.length)&&decide (AX l=0)
def vS (x:Pa):Bool:=bQ x.p 1 4095&&(bQ x.q 1 4095&&decide (x.p≠x.q))
def AZ (x:Pa):Bool:=bQ x.u x.d 131072
def FM (n d:Int):Bool:=okR ⟨n,d⟩&&(decide (0<n)&&decide (n≤d))
def aQ (x:Pa):Bool:=
 if x.k=0 then zx x
 else if x.k=3∨x.k=15 then mX x.cl
 else if x.k=4 then bQ x.p 1 4095&&((bQ x.u 0 5||bQ x.u 7 66)&&(bQ x.q 0 7&&bQ x.m 1 1099511627776))
 else if x.k=5 then bQ x.p 1 4095&&bQ x.u 0 1
 else if x.k=6∨x.k=7 then bQ x.u 0 255
 else if x.k=8 then bQ x.u 0 255&&bQ x.m 1 12
 else if x.k=9 then AZ x
 else if x.k=12∨x.k=14 then bQ x.p 1 4095
 else if x.k=13 then bQ x.u 0 2&&(bQ x.q 0 1&&(decide (x.u≠2)||mX x.cl))
 else if x.k=16 then vS x&&FM x.sn x.sd
 else if x.k=17 then vS x&&AZ x
 else if x.k=18 then bQ x.u 0 7
 else if x.k=19 then decide (pV x.fx=0)
 else if x.k=20 then bQ x.o 0 11&&AZ x
 else if x.k=21 then bQ x.o 0 11&&(bQ x.u 0 18&&bQ x.m 0 1099511627776)
 else true
def xI (x:Pa):Bool:=
 bQ x.k 0 21&&(bQ x.d 0 131072&&(bQ x.n 0 1099511627776&&(bQ x.f 0 4095&&(FK (RJ x)&&aQ x))))
end PA
namespace PA
open Go
theorem Vw (n d:Int):okR ⟨n,d⟩=true↔1≤d∧d≤1048576∧n≤1099511627776∧-1099511627776≤n∧Nat.gcd n.natAbs d.natAbs=1:=by
 constructor
 ·intro h
  have hr:=(dH h).1
  exact⟨hr.d1,hr.d2,hr.n2,hr.n1,IV n d (by have:=hr.d1;simp only at this;omega) h⟩
 ·rintro⟨h1,h2,h3,h4,h5⟩
  exact lZ n d h1 h2 (by omega) h5
end PA
namespace Go.Proofs.YtgicfogmdfdjmaaGreatDoor
open Go.RowKit PA
set_option maxHeartbeats 1000000 in
theorem vT {W w:World} {A:aH} (a b:Int) (ha:a.natAbs≤4611686018427387904) (hb:b.natAbs≤4611686018427387904) (h:Sat W w A):
 Calls Tryz.prog 99 #[.int .i64 a,.int .i64 b] w fun e w'=>e=.returned (.int .i64 (Nat.gcd a.natAbs b.natAbs:Nat))∧Sat W w' A:=by
 obtain⟨g,hg⟩:=aG (Nat.gcd a.natAbs b.natAbs)
 rw[←hg]
 have HG:=ah hg
 clear hg
 go_enter Tryz.func99,Tryz.ntmps99
 go_wp2
 go_loopw [0,1] (fun av bv wr=>∃x y:Int,av=.int .i64 x∧bv=.int .i64 y∧x.natAbs≤4611686018427387904∧y.natAbs≤4611686018427387904∧Hid (Nat.gcd x.natAbs y.natAbs=g)∧Sat W wr A) (fun _ bv _=>(intOf bv).natAbs)
 case atStart=>exact⟨a,b,rfl,rfl,ha,hb,ah HG.out.symm,h⟩
 case round=>
  obtain⟨x,y,rfl,rfl,hx,hy,TR,hS⟩:=hrel
  by_cases h0:y=0
  ·subst h0
   have hxg:x.natAbs=g:=by rw[←TR.out];simp
   have HGG:=ah hxg
   by_cases hneg:x<0
   ·have ew:-x=(g:Int):=by omega
    clear hxg HG ha hb h
    go_wp2
    go_ret
    exact⟨by simp,hS⟩
   ·have ew:x=(g:Int):=by omega
    clear hxg HG ha hb h
    go_wp2
    go_ret
    exact⟨rfl,hS⟩
  ·obtain⟨z,hz⟩:∃z,z=Int.tmod x y:=⟨_,rfl⟩
   have hm:Int.tmod x y=z:=hz.symm
   have hzn:z.natAbs=x.natAbs % y.natAbs:=by rw[hz,Int.natAbs_tmod]
   have hzl:z.natAbs<y.natAbs:=by rw[hzn];exact Nat.mod_lt _ (by omega)
   have hyx:(y==0)=false:=by simpa using h0
   have HZ:=ah hzn
   clear hz hzn ha hb h
   go_wp2
   refine aB rfl (fun _=>True) [(0,.p),(1,.p),(2,.p),(3,.p),(4,.p),(5,.p)] (by kernel_rfl) ?_
   have hS0:True:=trivial
   (repeat ((first|(refine eX (v:=?_) rfl rfl (fun w'=>?_) ?_;rotate_left;(go_simp;with_reducible rfl))|(refine eY (v:=?_) rfl rfl hS0 (fun w' hS=>?_) ?_;rotate_left;((try dsimp only at hS);go_simp;with_reducible rfl))|(refine fA (v:=?_) rfl rfl ?_ ?_;rotate_left;(go_simp;with_reducible rfl))|(refine bH rfl rfl ?_)|(refine bI rfl rfl hS0 ?_)|(refine bJ rfl rfl ?_));simp only[Act.put,lsA,lsB,bK]))
   refine bM ?_
   go_wp2
   go_roundw
   case rel=>exact⟨y,z,rfl,rfl,hy,by omega,ah (by rw[HZ.out,←TR.out,Nat.gcd_comm y.natAbs,←Nat.gcd_rec,Nat.gcd_comm]),hS.drew⟩
   case measure=>simp[intOf];omega
theorem La (w:World) (a b c d:Int):(binOp .eql 57 (.agg #[.int .i64 a,.int .i64 b]) (.agg #[.int .i64 c,.int .i64 d])).run Tryz.prog w=.ok (.bool (a==c&&b==d)) w:=by
 have h1:Tryz.prog.underlying 57=some (.struct (Tryz.prog.fieldsOf 57)):=by kernel_rfl
 have h2:Tryz.prog.stoodInHeld 57=false:=by kernel_rfl
 have e:=run_equalIn_struct (P:=Tryz.prog) w 9999 57 #[.int .i64 a,.int .i64 b] #[.int .i64 c,.int .i64 d] h1 h2
 rw[run_eql_struct,e]
 clear e
 have q0:∀a b:Int,(part 3 #[.int .i64 a,.int .i64 b] 0).run Tryz.prog w=.ok (.int .i64 a) w:=fun a b=>by kernel_rfl
 have q1:∀a b:Int,(part 3 #[.int .i64 a,.int .i64 b] 1).run Tryz.prog w=.ok (.int .i64 b) w:=fun a b=>by kernel_rfl
 have r0:∀a b:Int,(Op.equalIn 9999 3 (.int .i64 a) (.int .i64 b)).run Tryz.prog w=.ok (a==b) w:=fun a b=>run_equalIn_int (P:=Tryz.prog) w 9998 3 .i64 .i64 a b Tryz.underlying3
 by_cases e1:a=c
 ·by_cases e2:b=d
  ·simp[Program.fieldsOf,Tryz.underlying57,Op.eqFields,q0,q1,r0,e1,e2]
  ·simp[Program.fieldsOf,Tryz.underlying57,Op.eqFields,q0,q1,r0,e1,e2]
 ·simp[Program.fieldsOf,Tryz.underlying57,Op.eqFields,q0,r0,e1]
def Ei (b:Bool):Int:=if b=true then 0 else 1
set_option maxHeartbeats 1000000 in
theorem iW {W w:World} {A:aH} (n d:Int) (h:Sat W w A):
 Calls Tryz.prog 98 #[.agg #[.int .i64 n,.int .i64 d]] w fun e w'=>e=.returned (.int .i64 (Ei (okR ⟨n,d⟩)))∧Sat W w' A:=by
 have hiff:=Vw n d
 have h1:=h.alloc (.cells #[.int .i64 n,.int .i64 d] 57)
 obtain⟨B,hB⟩:=aG (w.heap.size)
 obtain⟨w1,hw1⟩:=aG (w.alloc (.cells #[.int .i64 n,.int .i64 d] 57))
 rw[←hB,←hw1] at h1
 obtain⟨k0,k1,-,-⟩:=gQ h1
 have HB:=ah (And.intro hB hw1)
 have H1:=ah h1
 clear h h1 hB hw1
 by_cases c1:d<1
 ·have hr:okR ⟨n,d⟩=false:=by rw[Bool.eq_false_iff];intro e;have:=hiff.1 e;omega
  rw[hr]
  clear hiff hr
  go_enter Tryz.func98,Tryz.ntmps98
  go_upto_region 1 with (fail)
  rw[←HB.out.1,←HB.out.2]
  go_wp2
  go_ret
  exact⟨rfl,H1.out.drop⟩
 by_cases c2:1048576<d
 ·have hr:okR ⟨n,d⟩=false:=by rw[Bool.eq_false_iff];intro e;have:=hiff.1 e;omega
  rw[hr]
  clear hiff hr
  go_enter Tryz.func98,Tryz.ntmps98
  go_upto_region 1 with (fail)
  rw[←HB.out.1,←HB.out.2]
  go_wp2
  go_ret
  exact⟨rfl,H1.out.drop⟩
 by_cases c3:1099511627776<n
 ·have hr:okR ⟨n,d⟩=false:=by rw[Bool.eq_false_iff];intro e;have:=hiff.1 e;omega
  rw[hr]
  clear hiff hr
  go_enter Tryz.func98,Tryz.ntmps98
  go_upto_region 1 with (fail)
  rw[←HB.out.1,←HB.out.2]
  go_wp2
  go_ret
  exact⟨rfl,H1.out.drop⟩
 by_cases c4:n < -1099511627776
 ·have hr:okR ⟨n,d⟩=false:=by rw[Bool.eq_false_iff];intro e;have:=hiff.1 e;omega
  rw[hr]
  clear hiff hr
  go_enter Tryz.func98,Tryz.ntmps98
  go_upto_region 1 with (fail)
  rw[←HB.out.1,←HB.out.2]
  go_wp2
  go_ret
  exact⟨rfl,H1.out.drop⟩
 ·obtain⟨g,hg⟩:∃g:Nat,g=Nat.gcd n.natAbs d.natAbs:=⟨_,rfl⟩
  have HC:=ah (vT n d (by omega) (by omega) H1.out)
  rw[←hg] at HC
  have hr:okR ⟨n,d⟩=decide (g=1):=by
   rw[Bool.eq_iff_iff,hiff,←hg,decide_eq_true_eq]
   constructor
   ·exact fun e=>e.2.2.2.2
   ·exact fun e=>⟨by omega,by omega,by omega,by omega,e⟩
  rw[hr]
  clear hiff hr hg
  by_cases hg1:g=1
  ·subst hg1
   go_enter Tryz.func98,Tryz.ntmps98
   go_upto_region 1 with (fail)
   rw[←HB.out.1,←HB.out.2]
   go_wp2_with fail
   refine HC.out.mono ?_
   rintro e w2 ⟨rfl,h2⟩
   have H2:=ah h2
   clear h2 HC k0 k1
   go_wp2
   go_ret
   exact⟨rfl,H2.out.drop⟩
  ·have hgz:((g:Int)==1)=false:=by simp;omega
   have hd:decide (g=1)=false:=decide_eq_false hg1
   rw[hd]
   clear hg1 hd
   go_enter Tryz.func98,Tryz.ntmps98
   go_upto_region 1 with (fail)
   rw[←HB.out.1,←HB.out.2]
   go_wp2_with fail
   refine HC.out.mono ?_
   rintro e w2 ⟨rfl,h2⟩
   have H2:=ah h2
   clear h2 HC k0 k1
   go_wp2
   go_ret
   exact⟨rfl,H2.out.drop⟩
end Go.Proofs.YtgicfogmdfdjmaaGreatDoor
namespace PA
open Go Go.RowKit
section
variable {P:Program} {ops:Array Oper} {Q:Exit→Act→World→Prop} {S:World→Prop}
theorem WC {b:Bool} {E:List (Nat×List Nat)} {l:List ig} {K:Act→World→Prop} {a:Act} {w:World} {n:Nat} (hn:E.length=n) (h:tZ P ops Q S b n E (jG P ops Q S l K) a w):jG P ops Q S (.grp b E::l) K a w:=by
 subst hn;exact h
end
end PA
namespace PA
open Go Go.RowKit
section
variable {P:Program} {ops:Array Oper} {Q:Exit→Act→World→Prop} {S:World→Prop} {W:World}
def jg (ops:Array Oper) (L:List Nat) (f:Nat→Option Value) (a:Act):Act:=L.foldl (fun a x=>match f x with|some v=>a.put (aY ops x) v|none=>a) a
theorem jw (x:Nat) (L:List Nat) (f:Nat→Option Value) (a:Act):jg ops (x::L) f a=jg ops L f (match f x with|some v=>a.put (aY ops x) v|none=>a):=rfl
def kL (f:Nat→Option Value) (x:Nat) (v:Value):Nat→Option Value:=fun y=>if y=x then some v else f y
theorem aV {f:Nat→Option Value} {x y:Nat} {v:Value} (h:y≠x):kL f x v y=f y:=by unfold kL;rw[if_neg h]
theorem gK {f:Nat→Option Value} {x:Nat} {v:Value}:kL f x v x=some v:=by unfold kL;rw[if_pos rfl]
def wY (ops:Array Oper) (x y:Nat):Prop:=∀d,aY ops x=some d→aY ops y≠some d
theorem zX {x:Nat} {v:Value} (f:Nat→Option Value):∀(L:List Nat),(∀y∈L,wY ops x y)→∀a:Act,jg ops L f (a.put (aY ops x) v)=(jg ops L f a).put (aY ops x) v
 | [],_,_=>rfl
 | y::L,h,a=>by
  rw[jw,jw]
  cases hy:f y with
  | none=>exact zX f L (fun z hz=>h z (List.mem_cons_of_mem _ hz)) a
  | some u=>
   show jg ops L f ((a.put (aY ops x) v).put (aY ops y) u)=(jg ops L f (a.put (aY ops y) u)).put (aY ops x) v
   rw[Act.put_comm a v u (h y (List.mem_cons_self ..)),zX f L (fun z hz=>h z (List.mem_cons_of_mem _ hz))]
theorem zY {f g:Nat→Option Value}:∀(L:List Nat),(∀y∈L,f y=g y)→∀a:Act,jg ops L f a=jg ops L g a
 | [],_,_=>rfl
 | y::L,h,a=>by
  rw[jw,jw,h y (List.mem_cons_self ..)]
  exact zY L (fun z hz=>h z (List.mem_cons_of_mem _ hz)) _
theorem Ih {x:Nat} {v:Value} {f:Nat→Option Value}:∀(L:List Nat),x∈L→L.Pairwise (wY ops)→L.Nodup→f x=none→∀a:Act,jg ops L (kL f x v) a=(jg ops L f a).put (aY ops x) v
 | [],h,_,_,_,_=>by cases h
 | y::L,h,hp,hn,hx,a=>by
  obtain⟨p1,p2⟩:=List.pairwise_cons.1 hp
  obtain⟨n1,n2⟩:=List.nodup_cons.1 hn
  rw[jw,jw]
  by_cases e:x=y
  ·subst e
   rw[gK,hx]
   show jg ops L (kL f x v) (a.put (aY ops x) v)=(jg ops L f a).put (aY ops x) v
   rw[zY L (g:=f) (fun z hz=>aV (x:=x) (v:=v) (fun e=>n1 (by rw[←e];exact hz))),zX f L p1]
  ·rw[aV (Ne.symm e)]
   exact Ih L ((List.mem_cons.1 h).resolve_left e) p2 n2 hx _
theorem Ii (a:Act) (d:Option Tmp) (v:Value):(a.put d v).tmps.size=a.tmps.size:=by
 cases d with
 | none=>rfl
 | some d=>simp[Act.put]
theorem CZ {a b:Act} {t:Tmp} {v:Value} (h:a.tmps.size=b.tmps.size):(a.put (some t) v).eval (.tmp t)=(b.put (some t) v).eval (.tmp t):=by
 simp[Act.put,Act.eval,Array.getElem?_setIfInBounds,h]
theorem nY {f:Nat→Option Value} {t:Tmp} (keep:Nat→Bool):∀(L:List Nat) (a b:Act),a.tmps.size=b.tmps.size→a.eval (.tmp t)=b.eval (.tmp t)→(∀y∈L,keep y=false→aY ops y≠some t)→(jg ops L f a).eval (.tmp t)=(jg ops (L.filter keep) f b).eval (.tmp t)
 | [],_,_,_,h,_=>h
 | y::L,a,b,hs,h,hL=>by
  have hL':=fun z hz=>hL z (List.mem_cons_of_mem _ hz)
  rw[jw,List.filter_cons]
  by_cases hk:keep y=true
  ·rw[if_pos hk,jw]
   cases hf:f y with
   | none=>exact nY keep L _ _ hs h hL'
   | some v=>
    refine nY keep L _ _ (by simp only[Ii,hs]) ?_ hL'
    by_cases hd:aY ops y=some t
    ·simp only[hd];exact CZ hs
    ·simp only
     rw[Act.eval_put fun d hd' e=>hd (by rw[hd'];cases e;rfl),Act.eval_put fun d hd' e=>hd (by rw[hd'];cases e;rfl)]
     exact h
  ·rw[if_neg hk]
   have hk':keep y=false:=by simpa using hk
   have hd:=hL y (List.mem_cons_self ..) hk'
   cases hf:f y with
   | none=>exact nY keep L _ _ hs h hL'
   | some v=>
    refine nY keep L _ _ (by simp only[Ii,hs]) ?_ hL'
    simp only
    rw[Act.eval_put fun d hd' e=>hd (by rw[hd'];cases e;rfl)]
    exact h
def sN (P:Program) (o:Oper) (a:Act) (w:World) (Post:Value→World→Prop):Prop:=
 (∃v w',(execOp a.eval o).run P w=.ok (.value v) w'∧Post v w') ∨
 (∃f args w1,(execOp a.eval o).run P w=.ok (.enter f args) w1∧Calls P f args w1 fun e w'=>∃v,e=.returned v∧Post v w')
theorem sN.go {i:Nat} {o:Oper} {a:Act} {w:World} {Post:Value→World→Prop} (ho:ops[i]?=some o) (hg:o.guard=none) (h:sN P o a w Post) {K:Act→World→Prop}
 (hK:∀v w',Post v w'→K (a.put o.dst v) w'):Go.wpOp P ops Q i K a w:=by
 unfold Go.wpOp
 have hw:Region.wanted o (yielded ops a.tmps)=true:=by unfold Region.wanted;rw[hg]
 simp only[ho,hw,if_true]
 refine .inl ?_
 unfold Oper.wp
 rcases h with ⟨v,w',h1,h2⟩|⟨f,args,w1,h1,h2⟩
 ·rw[h1];exact hK v w' h2
 ·rw[h1]
  refine Calls.mono h2 ?_
  rintro e w' ⟨v,rfl,h3⟩
  exact hK v w' h3
def dagB (ops:Array Oper) (E0:List Nat) (D:Nat→List Nat):Bool:=
 E0.all fun x=>(match ops[x]? with
  | none=>false
  | some o=>o.guard.isNone&&(match o.op with|.select ..=>false|_=>true)&&E0.all fun y=>(D x).contains y||(match aY ops y with|some t=>!(o.looksAt ops).contains t|none=>true)) &&
  (D x).all fun d=>E0.contains d&&((Region.before ops).getD x 0).testBit d
def MW (ops:Array Oper):List Nat→Bool
 | []=>true
 | x::L=>(L.all fun y=>match aY ops x with|some d=>aY ops y !=some d|none=>true)&&!L.contains x&&MW ops L
theorem Ij:∀(L:List Nat),MW ops L=true→L.Pairwise (wY ops)∧L.Nodup
 | [],_=>⟨.nil,.nil⟩
 | x::L,h=>by
  simp only[MW,Bool.and_eq_true,List.all_eq_true,Bool.not_eq_true'] at h
  obtain⟨⟨h1,h2⟩,h3⟩:=h
  obtain⟨i1,i2⟩:=Ij L h3
  refine⟨List.pairwise_cons.2 ⟨fun y hy d hd=>?_,i1⟩,List.nodup_cons.2 ⟨fun hm=>?_,i2⟩⟩
  ·have:=h1 y hy
   rw[hd] at this
   simpa using this
  ·simp[hm] at h2
theorem zZ {a0:Act} {b:Bool} {K:Act→World→Prop} (E0:List Nat) (D:Nat→List Nat) (T:(Nat→Option Value)→aH)
 (hB:dagB ops E0 D=true) (hdst:MW ops E0=true) (hS:b=true→∀f w,Sat W w (T f)→S w)
 (hop:∀x∈E0,∀(f:Nat→Option Value) (w:World) (o:Oper),ops[x]?=some o→f x=none→(∀d∈D x,(f d).isSome=true)→(∀y∈E0,(f y).isSome=true→∀d∈D y,(f d).isSome=true)→Sat W w (T f) →
  sN P o (jg ops (E0.filter fun y=>(D x).contains y) f a0) w (fun v w'=>Sat W w' (T (kL f x v))))
 (hfin:∀(f:Nat→Option Value) (w:World),(∀x∈E0,(f x).isSome=true)→Sat W w (T f)→K (jg ops E0 f a0) w):
 ∀(n:Nat) (E:List Nat) (f:Nat→Option Value) (w:World),E.length=n→E.Nodup→(∀x,x∈E↔x∈E0∧f x=none)→(∀y∈E0,(f y).isSome=true→∀d∈D y,(f d).isSome=true)→Sat W w (T f) →
  tZ P ops Q S b n (E.map fun x=>(x,[])) K (jg ops E0 f a0) w:=by
 obtain⟨hpw,hnd⟩:=Ij E0 hdst
 have hB':=List.all_eq_true.1 hB
 intro n
 induction n with
 | zero=>
  intro E f w hl _ hE _ hT
  have he:=List.eq_nil_of_length_eq_zero hl
  subst he
  refine hfin f w (fun x hx=>?_) hT
  cases hf:f x with
  | some v=>rfl
  | none=>have:=(hE x).2 ⟨hx,hf⟩;cases this
 | succ n ih=>
  intro E f w hl hn hE hcl hT
  rintro⟨x,js⟩ hxm wW
  obtain⟨x',hx',e⟩:=List.mem_map.1 hxm
  cases e
  obtain⟨hx0,hfx⟩:=(hE x).1 hx'
  have hb:=hB' x hx0
  simp only[Bool.and_eq_true,List.all_eq_true] at hb
  obtain⟨hb1,hb2⟩:=hb
  cases ho:ops[x]? with
  | none=>rw[ho] at hb1;cases hb1
  | some o=>
   rw[ho] at hb1
   simp only[Bool.and_eq_true,List.all_eq_true,Bool.or_eq_true] at hb1
   obtain⟨⟨hg,hs⟩,hlook⟩:=hb1
   have hg':o.guard=none:=by simpa using hg
   have hs':∀cs b,o.op≠.select cs b:=fun cs b e=>by rw[e] at hs;cases hs
   have Aa:∀d∈D x,(f d).isSome=true:=fun d hd=>by
    have h1:=hb2 d hd
    simp only[List.contains_iff_mem] at h1
    cases hf:f d with
    | some v=>rfl
    | none=>
     have hdE:=(hE d).2 ⟨h1.1,hf⟩
     have:=List.all_eq_true.1 wW (d,[]) (List.mem_map.2 ⟨d,hdE,rfl⟩)
     simp only[h1.2] at this
     cases this
   have hd1:=hop x hx0 f w o ho hfx Aa hcl hT
   have hex:execOp (jg ops E0 f a0).eval o=execOp (jg ops (E0.filter fun y=>(D x).contains y) f a0).eval o:=by
    refine execOp_congr o hs' fun z hz=>?_
    cases z with
    | tmp t=>
     refine nY _ E0 a0 a0 rfl rfl fun y hy hk hdt=>?_
     have:=hlook y hy
     rw[hk,hdt] at this
     simp only[Bool.false_eq_true,false_or,Bool.not_eq_true',List.contains_eq_mem,decide_eq_false_iff_not] at this
     exact this (List.mem_append_left _ (List.mem_filterMap.2 ⟨.tmp t,by simpa using hz,rfl⟩))
    | _=>rfl
   have hd2:sN P o (jg ops E0 f a0) w (fun v w'=>Sat W w' (T (kL f x v))):=by
    unfold sN at hd1 ⊢
    rw[hex];exact hd1
   refine hd2.go ho hg' fun v w' hT'=>⟨fun hb=>hS hb _ w' hT',?_⟩
   show tZ P ops Q S b n _ K _ w'
   have hdo:o.dst=aY ops x:=by unfold aY;rw[ho];rfl
   rw[hdo,←Ih E0 hx0 hpw hnd hfx]
   have hel:((E.map fun x=>(x,([]:List Nat))).erase (x,[]))=(E.erase x).map fun x=>(x,([]:List Nat)):=by
    clear hl hn hE hxm wW hx'
    induction E with
    | nil=>rfl
    | cons y E ihE=>
     rw[List.map_cons,List.erase_cons,List.erase_cons]
     by_cases e:y=x
     ·subst e;simp
     ·have e1:(y==x)=false:=by simpa using e
      have e2:((y,([]:List Nat))==(x,[]))=false:=by simp[e]
      rw[e1,e2]
      simp only[Bool.false_eq_true,if_false,List.map_cons,ihE]
   rw[hel]
   refine ih (E.erase x) (kL f x v) w' (by rw[List.length_erase_of_mem hx',hl];rfl) (hn.erase x) (fun y=>?_) (fun y hy hys d hd=>?_) hT'
   ·rw[hn.mem_erase_iff,hE]
    by_cases e:y=x
    ·subst e;simp[gK]
    ·rw[aV e];simp[e]
   ·by_cases e:d=x
    ·subst e;rw[gK];rfl
    ·rw[aV e]
     by_cases e2:y=x
     ·subst e2;exact Aa d hd
     ·rw[aV e2] at hys
      exact hcl y hy hys d hd
end
end PA
namespace PA
open Go Go.RowKit
section
variable {P:Program} {ops:Array Oper} {Q:Exit→Act→World→Prop}
variable {S:World→Prop} {W:World}
def WE (P:Program) (o:Oper) (a:Act) (w:World) (Post:Value→World→Prop):Prop:=sN P o a w Post∨∃w',(execOp a.eval o).run P w=.ok .skip w'∧Post undef w'
theorem WE.go {i:Nat} {o:Oper} {a:Act} {w:World} {Post:Value→World→Prop} (ho:ops[i]?=some o) (hg:o.guard=none) (h:WE P o a w Post) {K:Act→World→Prop}
 (hK:∀v w',Post v w'→K (a.put o.dst v) w'):Go.wpOp P ops Q i K a w:=by
 rcases h with h|⟨w',h1,h2⟩
 ·exact h.go ho hg hK
 ·unfold Go.wpOp
  have hw:Region.wanted o (yielded ops a.tmps)=true:=by unfold Region.wanted;rw[hg]
  simp only[ho,hw,if_true]
  refine .inl ?_
  unfold Oper.wp
  rw[h1];exact hK undef w' h2
end
end PA
namespace PA
open Go
theorem VW {n:Int} (h:n.natAbs≤1099511627776):okR ⟨n,1⟩=true:=lZ n 1 (by omega) (by omega) h (by simp)
theorem BM {n:Int} (h1:-8≤n) (h2:n≤8):iT ⟨n,1⟩=true:=by
 unfold iT
 rw[VW (by omega),decide_eq_true (by show n≤1073741824;omega),decide_eq_true (by show -1073741824≤n;omega)]
 rfl
theorem SY {x:Iv} (h:EK x):jS x=true:=by
 obtain⟨h1,h2,h3,h4,h5⟩:=h
 obtain⟨ln,ld,hn,hd,lo,ho,li,hi⟩:=x
 simp only at h1 h2 h3 h4 h5
 subst h3 h4
 have e1:∀hn hd lo ho li hi,iT (Iv.lw ⟨ln,1,hn,hd,lo,ho,li,hi⟩)=true:=fun _ _ _ _ _ _=>BM (n:=ln) (by omega) (by omega)
 rcases h5 with ⟨rfl,rfl,rfl,rfl⟩|⟨rfl,rfl,h6,h7⟩
 ·unfold jS;rw[e1];simp[zR,Iv.up]
 ·have e2:iT (Iv.up ⟨ln,1,hn,1,lo,ho,false,false⟩)=true:=BM (n:=hn) (by omega) (by omega)
  have e3:eqR (Iv.lw ⟨ln,1,hn,1,lo,ho,false,false⟩) (Iv.up ⟨ln,1,hn,1,lo,ho,false,false⟩)=false:=by
   unfold eqR Iv.lw Iv.up
   rw[show (ln==hn)=false by simpa using (by omega:¬ln=hn)];rfl
  have e4:OL (Iv.lw ⟨ln,1,hn,1,lo,ho,false,false⟩) (Iv.up ⟨ln,1,hn,1,lo,ho,false,false⟩)=true:=by
   unfold OL Iv.lw Iv.up
   exact decide_eq_true (show ln*1<hn*1 by omega)
  unfold jS;rw[e1,e2,e3,e4];simp
theorem VX {x:Iv} (h:jS x=true):zq [x]=true:=by
 have e:AQ [x] 1=true:=by rw[xH,Ef];simp[uF,h]
 unfold zq TV
 rw[show ([x]:List Iv).length=1 from rfl,e];simp
theorem jL {f:Fm} (h:nU f):Fm.whole zq f=true∧f.size=1∧f.deep=1∧f.iI=[f]∧f.parts=[f]:=by
 obtain⟨n,h1,h2,rfl⟩:=h
 refine⟨?_,by simp[Fm.size,Fm.sizes],by simp[Fm.deep,Fm.fD],by simp[Fm.iI],by simp[Fm.parts,Fm.op]⟩
 simp[Fm.whole,Fm.formed,Fm.dS];omega
theorem wB {f:Fm} (h:zH f):Fm.whole zq f=true∧f.size=1∧f.deep=1∧f.iI=[f]∧f.parts=[f]:=by
 obtain⟨n,x,h1,h2,hx,rfl⟩:=h
 refine⟨?_,by simp[Fm.size,Fm.sizes],by simp[Fm.deep,Fm.fD],by simp[Fm.iI],by simp[Fm.parts,Fm.op]⟩
 have:=VX (SY hx)
 simp[Fm.whole,Fm.formed,Fm.dS,this];omega
structure FmG (f:Fm):Prop where
 wh:Fm.whole zq f=true
 sz:f.size≤4
 dp:f.deep≤3
theorem S9 {f:Fm} (h:bY f):FmG f:=by
 cases h with
 | c h=>obtain⟨a,b,c,-⟩:=jL h;exact⟨a,by omega,by omega⟩
 | v h=>obtain⟨a,b,c,-⟩:=wB h;exact⟨a,by omega,by omega⟩
 | MC h g=>obtain⟨a,b,c,-⟩:=jL h;obtain⟨a',b',c',-⟩:=wB g;exact⟨by simp[Fm.whole,Fm.formed,Fm.dS,a,a'],by simp[Fm.size,Fm.sizes,b,b'],by simp[Fm.deep,Fm.fD,c,c']⟩
 | UA h g=>obtain⟨a,b,c,-⟩:=jL h;obtain⟨a',b',c',-⟩:=wB g;exact⟨by simp[Fm.whole,Fm.formed,Fm.dS,a,a'],by simp[Fm.size,Fm.sizes,b,b'],by simp[Fm.deep,Fm.fD,c,c']⟩
 | Xc h g=>obtain⟨a,b,c,-⟩:=jL h;obtain⟨a',b',c',-⟩:=jL g;exact⟨by simp[Fm.whole,Fm.formed,Fm.dS,a,a'],by simp[Fm.size,Fm.sizes,b,b'],by simp[Fm.deep,Fm.fD,c,c']⟩
 | Xd h g=>obtain⟨a,b,c,-⟩:=jL h;obtain⟨a',b',c',-⟩:=jL g;exact⟨by simp[Fm.whole,Fm.formed,Fm.dS,a,a'],by simp[Fm.size,Fm.sizes,b,b'],by simp[Fm.deep,Fm.fD,c,c']⟩
 | part h=>obtain⟨a,b,c,-⟩:=jL h;exact⟨by simp[Fm.whole,Fm.formed,Fm.dS,a],by simp[Fm.size,Fm.sizes,b],by simp[Fm.deep,Fm.fD,c]⟩
 | Xe h g=>obtain⟨a,b,c,-⟩:=jL h;obtain⟨a',b',c',-⟩:=wB g;exact⟨by simp[Fm.whole,Fm.formed,Fm.dS,a,a'],by simp[Fm.size,Fm.sizes,b,b'],by simp[Fm.deep,Fm.fD,c,c']⟩
structure AltG (n:Nat) (f:Fm):Prop where
 wh:Fm.dS zq f.parts=true
 sz:Fm.sizes f.parts≤n
 dp:Fm.fD f.parts≤3
theorem AltG.up {m n:Nat} {f:Fm} (h:AltG m f) (hmn:m≤n):AltG n f:=⟨h.wh,Nat.le_trans h.sz hmn,h.dp⟩
theorem yM {i:Nat} {r:List Int} (h:kJ i r):r.length≤2∧o9 r i=true:=by
 rcases h with rfl|⟨j,hj,rfl⟩|⟨rfl,rfl⟩
 ·exact⟨by simp,rfl⟩
 ·refine⟨by simp,?_⟩
  unfold o9
  rw[show ([(j:Int)]:List Int).length=1 from rfl,uG,AV]
  simp[o8];omega
 ·exact⟨by simp,by decide⟩
end PA
