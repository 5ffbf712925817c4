/- Part of a proof. -/
import Derived.Test.YtgicfogmdfdjmaaGreatDoorGTitleHolds6
namespace Go.Proofs.YtgicfogmdfdjmaaGreatDoor
open Go.RowKit PA
structure E5 (S:l7) (own:List (Int×Rt)):Prop where
 asc:own.Pairwise fun a b=>a.1<b.1
 mem:∀p r,(p,r)∈own↔S p=some r∧0<r.n
def iJ (own:List (Int×Rt)):List Value:=own.flatMap fun o=>[.int .i64 o.1,.int .i64 o.2.n,.int .i64 o.2.d]
def wF (S:l7) (ks:List Int):List (Int×Rt):=ks.filterMap fun p=>match S p with|some r=>if 0<r.n then some (p,r) else none|none=>none
theorem JM (own:List (Int×Rt)):(iJ own).length=own.length*3:=by
 induction own with
 | nil=>rfl
 | cons x xs ih=>rw[iJ,List.flatMap_cons,dI,←iJ,ih,List.length_cons];simp;omega
theorem UF {S:l7} {ks:List Int} (h1:ks.Pairwise (·<·)) (h2:∀k,k∈ks↔(S k).isSome=true):E5 S (wF S ks):=by
 refine⟨?_,fun p r=>?_⟩
 ·unfold wF
  refine List.Pairwise.filterMap _ ?_ h1
  intro a a' hlt b hb b' hb'
  have e1:b.1=a:=by
   cases e:S a with
   | none=>simp[e] at hb
   | some r=>simp only[e] at hb;split at hb<;>simp_all;rw[←hb]
  have e2:b'.1=a':=by
   cases e:S a' with
   | none=>simp[e] at hb'
   | some r=>simp only[e] at hb';split at hb'<;>simp_all;rw[←hb']
  rw[e1,e2];exact hlt
 ·unfold wF
  rw[List.mem_filterMap]
  constructor
  ·rintro⟨a,ha,hm⟩
   cases e:S a with
   | none=>simp[e] at hm
   | some r'=>
    simp only[e] at hm
    split at hm
    ·rename_i hp
     cases hm
     exact⟨e,hp⟩
    ·cases hm
  ·rintro⟨e,hp⟩
   exact⟨p,(h2 p).2 (by rw[e];rfl),by simp[e,hp]⟩
theorem E5.unique {S:l7}:∀{a b:List (Int×Rt)},E5 S a→E5 S b→a=b:=by
 intro a b ha hb
 have key:∀{l m:List (Int×Rt)},l.Pairwise (fun a b=>a.1<b.1)→m.Pairwise (fun a b=>a.1<b.1)→(∀x,x∈l↔x∈m)→l=m:=by
  intro l
  induction l with
  | nil=>intro m _ _ h;cases m with
   | nil=>rfl
   | cons x m=>have:=(h x).2 (by simp);simp at this
  | cons x l ih=>
   intro m h1 h2 h
   cases m with
   | nil=>have:=(h x).1 (by simp);simp at this
   | cons y m=>
    have a1:=List.pairwise_cons.1 h1
    have a2:=List.pairwise_cons.1 h2
    have hxy:x=y:=by
     rcases List.mem_cons.1 ((h x).1 (by simp)) with e|e
     ·exact e
     ·rcases List.mem_cons.1 ((h y).2 (by simp)) with e'|e'
      ·exact e'.symm
      ·have:=a1.1 y e';have:=a2.1 x e;omega
    subst hxy
    rw[ih a1.2 a2.2 fun z=>?_]
    constructor
    ·intro hz
     rcases List.mem_cons.1 ((h z).1 (by simp[hz])) with e|e
     ·have:=a1.1 z hz;rw[e] at this;omega
     ·exact e
    ·intro hz
     rcases List.mem_cons.1 ((h z).2 (by simp[hz])) with e|e
     ·have:=a2.1 z hz;rw[e] at this;omega
     ·exact e
 exact key ha.asc hb.asc fun ⟨p,r⟩=>by rw[ha.mem,hb.mem]
theorem Nl {W w:World} {A:aG} (b:Nat) (f:Int→Option Value) (nf:Nat) (hN:nf≤1000000000) (h:Sat W w (sep (iP b f nf) A)):
 Calls Tryz.prog 26 #[.map (some b)] w fun e w'=>∃a c ks,e=.returned (.slice a ks.length c)∧KeysOf f ks∧ks.length≤nf∧Sat W w' (sep (aK 3 1 a ks.length c (ks.map iv)) (sep (iP b f nf) A)):=by
 have hk:=ah (Qe b f nf h)
 clear h
 go_enter Tryz.func26,Tryz.ntmps26
 go_wp2_with fail
 refine hk.out.mono ?_
 rintro e w2 ⟨rfl,h2⟩
 have hs:=ah (zD w.heap.size b f nf hN h2)
 clear h2
 go_wp2_with fail
 refine hs.out.mono ?_
 rintro e w3 ⟨a,c,ks,rfl,h3,h4,h5⟩
 have H:=ah (And.intro h3 (And.intro h4 h5))
 clear h3 h4 h5
 go_wp2
 go_ret
 exact⟨a,c,ks,rfl,H.out⟩
end Go.Proofs.YtgicfogmdfdjmaaGreatDoor
namespace Go.Proofs.YtgicfogmdfdjmaaGreatDoor
open Go.RowKit PA
theorem Np:(Tryz.prog.info? 80).map (fun i=>(i.zero,i.size,i.bytes))=some (some (.agg #[.int .i64 0,.int .i64 0,.int .i64 0]),3,24):=by kernel_rfl
def kH (file day:Int) (f:Ac) (xs:List Ac):l7:=(walkT file f.d day (fun (s:Unit) _ _ _=>s) 0 (sortK xs) (bW f.p) ()).1
set_option maxRecDepth 100000 in
set_option maxHeartbeats 4000000 in
theorem E8 {W w:World} {A:aG} {I:Mem} (file day:Int) (f:Ac) (b:Addr) (n c:Nat) (xs:List Ac) (hn:xs.length=n) (h0:0<n) (lM:n<40) (hD:xs.Pairwise fD) (jL:je xs) (hw:zB (some b) n c) (hc:bP (some b) (bI xs) I)
 (hf:dF file (sortK xs)=some f) (hr:aP file day (sortK xs)=0) (hsup:∀k,(kH file day f xs k).isSome=true→0≤k∧k<(10001:Nat)) (h:Sat W w (sep (kn I) A)):
 Calls Tryz.prog 10 #[.int .i64 file,.int .i64 day,.slice (some b) n c] w fun e w'=>∃own a c' J,e=.returned (.tuple #[.slice a own.length c',.int .i64 0])∧E5 (kH file day f xs) own∧Mem.le I J∧Sat W w' (sep (aK 80 3 a own.length c' (iJ own)) (sep (kn J) A)):=by
 have hwk:=ah (GR file day f b n c xs hn h0 lM hD jL hw hc hf hr h)
 obtain⟨S,hS⟩:=aC (kH file day f xs)
 rw[show (walkT file f.d day (fun (s:Unit) _ _ _=>s) 0 (sortK xs) (bW f.p) ()).1=S from hS.symm] at hwk
 rw[←hS] at hsup ⊢
 have XE:=ah hsup
 clear hn h0 lM hD jL hw hc hf hr hsup h hS
 go_enter Tryz.func10,Tryz.ntmps10
 go_wp2_with fail
 refine hwk.out.mono ?_
 rintro e w2 ⟨p,J,rfl,hle,h2⟩
 obtain⟨m,nf,h3⟩:=Bq h2
 have hb:=LZ (N:=10001) h3.p1 (fun k hk=>XE.out k (by unfold Eh at hk;simpa using hk))
 have cp:w2.cell? ⟨p,1,none⟩=some (.map (some m)):=h3.cell 1
 have hks:=ah (Nl m (Eh S) nf (by omega) h3.p1)
 have gQ:=ah hle
 clear hwk h2 h3 hle
 go_wp2_with fail
 refine hks.out.mono ?_
 rintro e w3 ⟨ak,ck,ks,rfl,hko,hkl,h4⟩
 clear cp hks
 have hsw:=h4.fA
 obtain⟨nk,hnk⟩:=aC (ks.length)
 rw[←hnk] at h4 ⊢
 have HKO:=ah hko
 have HNK:=ah hnk
 have H4:=ah h4
 have aiS:nk≤10001:=by omega
 clear hko hkl h4 hnk hsw
 go_wp2
 go_loopw [30,10] (fun kv ov wr=>∃(k:Nat) (a:Option Addr) (n1 c1:Nat) (vs:List Value),kv=.int .i64 k∧k≤nk∧ov=.slice a n1 c1∧n1≤k∧Hid (n1=(wF S (ks.take k)).length∧vs=iJ (wF S (ks.take k)))∧Sat W wr (sep (aK 80 3 a n1 c1 vs) (sep (aK 3 1 ak nk ck (ks.map iv)) (sep (iP m (Eh S) nf) (sep (blk p (.cells #[.int .i64 f.p,.map (some m)] 78 (0,0))) (sep (kn J) A)))))) (fun kv _ _=>nk-(intOf kv).toNat)
 case atStart=>exact⟨0,none,0,0,[],rfl,by omega,rfl,by omega,ah ⟨rfl,rfl⟩,H4.out.cZ _ _⟩
 case round=>
  obtain⟨k,a,n1,c1,vs,rfl,hk,rfl,hn1,HV,hS⟩:=hrel
  by_cases hlt:k<nk
  ·have hltz:(k:Int)<(nk:Int):=by omega
   have hkl:k<ks.length:=by rw[←HNK.out];exact hlt
   obtain⟨x,hx⟩:=aC (ks[k])
   obtain⟨gk,rfl,hcell⟩:=hS.p1.kD (fun e=>by have:=congrArg List.length e;simp at this;rw[this] at hkl;simp at hkl)
   have ck0:=hcell k (iv x) (by rw[List.getElem?_map,List.getElem?_eq_getElem hkl,hx];rfl)
   unfold iv at ck0
   have hsome:(S x).isSome=true:=by
    have:=(HKO.out.2 x).1 (by rw[hx];exact List.getElem_mem hkl)
    unfold Eh at this;simpa using this
   obtain⟨⟨rn,rd⟩,hsx⟩:=Option.isSome_iff_exists.1 hsome
   have hlk:=lK (P:=Tryz.prog) (T:=76) Tryz.underlying76 Tryz.underlying3 sV hS.p2 x false
   have hval:Eh S x=some (.agg #[.int .i64 rn,.int .i64 rd]):=by unfold Eh;rw[hsx];rfl
   rw[hval] at hlk
   have hlk2:(Instr.lookup 76 (.map (some m)) (.int .i64 x) false).run Tryz.prog wr=.ok (.agg #[.int .i64 rn,.int .i64 rd]) wr:=hlk
   have cp:wr.cell? ⟨p,1,none⟩=some (.map (some m)):=hS.p3.cell 1
   have htk:ks.take (k+1)=ks.take k++[x]:=by rw[List.take_succ_eq_append_getElem hkl,hx]
   have howns:wF S (ks.take (k+1))=wF S (ks.take k)++(if 0<rn then [(x,⟨rn,rd⟩)] else []):=by
    rw[htk]
    unfold wF
    rw[List.filterMap_append]
    congr 1
    simp only[List.filterMap_cons,hsx,List.filterMap_nil]
    split<;>simp_all
   have h2:=hS.alloc (.cells #[.int .i64 rn,.int .i64 rd] 57)
   obtain⟨d0,d1,-,-⟩:=gX h2
   have aiT:(k:Int)≤10001:=by omega
   have HOW:=ah howns
   have HS:=ah h2
   clear hcell hsome hsx hlk hval htk howns hS h2 hx
   by_cases hp:0<rn
   ·go_upto_region 10 with (fail)
    clear hlk2 ck0 cp
    have hB:Sat W (wr.alloc (.cells #[.int .i64 rn,.int .i64 rd] 57)) (sep (aK 80 3 a n1 c1 vs) (sep (aK 3 1 (some ⟨gk,0,none⟩) nk ck (ks.map iv)) (sep (iP m (Eh S) nf) (sep (blk p (.cells #[.int .i64 f.p,.map (some m)] 78 (0,0))) (sep (kn J) A))))):=HS.out.forget
    obtain⟨wz,hwz⟩:=aC (wr.alloc (.cells #[.int .i64 rn,.int .i64 rd] 57))
    obtain⟨gz,hgz⟩:=aC (wr.heap.size)
    rw[←hwz,←hgz] at d0 d1
    rw[←hwz] at hB
    rw[←hwz,←hgz]
    have hB2:=hB.dD (.cells #[.int .i64 x,.int .i64 rn,.int .i64 rd] 80)
    have hsrc:=dS wz [.int .i64 x,.int .i64 rn,.int .i64 rd] 80
    have gI:=ah hsrc
    clear hwz hgz hB HS hsrc
    go_wp2_with (at_builtin;refine aJ rfl _ _ 31 rfl 80 3 24 _ Tryz.underlying31 Np rfl rfl hB2 rfl [.int .i64 x,.int .i64 rn,.int .i64 rd] rfl (by simp) (by intro b' hb;cases hb;exact gI.out) (by simp[Value.oneCell']) (by omega) (by unfold maxLen;omega) ?_)
    intro a2 c2 w4 h5
    have H5:=ah h5
    clear h5 hB2 gI d0 d1
    go_wp2
    go_roundw
    case rel=>
     refine⟨k+1,a2,n1+1,c2,vs++[.int .i64 x,.int .i64 rn,.int .i64 rd],by go_num,by omega,rfl,by omega,ah ?_,H5.out⟩
     rw[HOW.out,if_pos hp,dI,←HV.out.1,HV.out.2]
     refine⟨rfl,?_⟩
     unfold iJ
     rw[List.flatMap_append];rfl
    case measure=>simp[intOf];omega
   ·go_wp2
    go_roundw
    case rel=>
     refine⟨k+1,a,n1,c1,vs,by go_num,by omega,rfl,by omega,ah ?_,HS.out.forget⟩
     rw[HOW.out,if_neg hp,List.append_nil]
     exact HV.out
    case measure=>simp[intOf];omega
  ·obtain rfl:k=nk:=by omega
   have HS:=ah hS
   clear hS
   go_wp2
   go_ret2
   have e1:ks.take k=ks:=List.take_of_length_le (by rw[HNK.out];exact Nat.le_refl _)
   have hv:=HV.out
   rw[e1] at hv
   refine⟨wF S ks,a,c1,J,by rw[←hv.1];rfl,UF HKO.out.1 (fun z=>by rw[HKO.out.2 z];unfold Eh;simp),gQ.out,?_⟩
   rw[←hv.1,←hv.2]
   have:=HS.out.p1.drop.p1.drop.p1.drop
   simpa only[ay,au,aj] using this
end Go.Proofs.YtgicfogmdfdjmaaGreatDoor
namespace Go.Proofs.YtgicfogmdfdjmaaGreatDoor
open Go.RowKit PA
theorem wG:(Tryz.prog.info? 3).map (fun i=>(i.zero,i.size,i.bytes))=some (some (.int .i64 0),1,8):=by kernel_rfl
def WH (s:List Int) (i:Nat) (x:Ac) (dn:Bool):List Int:=if x.k=16∧dn=false then s++[(i:Int)] else s
def Ej (V:Nat) (s:List Int):aG:=ex fun ac:Option Addr×Nat=>sep (blk V (.cells #[.slice ac.1 s.length ac.2] 22 (0,0))) (aK 3 1 ac.1 s.length ac.2 (s.map iv))
theorem Fa {W w:World} {A:aG} {V:Nat} {s:List Int} (h:Sat W w (sep (Ej V s) A)):∃a c,Sat W w (sep (blk V (.cells #[.slice a s.length c] 22 (0,0))) (sep (aK 3 1 a s.length c (s.map iv)) A)):=by
 rw[Ej,dA,Sat.ex] at h
 obtain⟨⟨a,c⟩,h⟩:=h
 rw[aj] at h
 exact⟨a,c,h⟩
theorem GU {W w:World} {A:aG} {V:Nat} {s:List Int} {a:Option Addr} {c:Nat} (h:Sat W w (sep (blk V (.cells #[.slice a s.length c] 22 (0,0))) (sep (aK 3 1 a s.length c (s.map iv)) A))):Sat W w (sep (Ej V s) A):=by
 rw[Ej,dA,Sat.ex]
 exact⟨(a,c),by rw[aj];exact h⟩
theorem XF {s:List Int} {i:Nat} {x:Ac} {dn:Bool} (h:s.length≤i):(WH s i x dn).length≤i+1:=by
 unfold WH
 split
 ·rw[dI,List.length_singleton];omega
 ·omega
set_option maxHeartbeats 1000000 in
theorem GV {W w:World} {B:aG} (V:Nat) (s:List Int) (i:Nat) (x:Ac) (dn:Bool) (pt:Value) (hi:i<40) (hs:s.length≤i) (h:Sat W w (sep (Ej V s) B)):
 Calls Tryz.prog 24 #[pt,.int .i64 i,.agg x.cells.toArray,.bool dn,.pointer (some ⟨V,0,none⟩)] w fun e w'=>e=.returned (.tuple #[])∧Sat W w' (sep (Ej V (WH s i x dn)) B):=by
 obtain⟨a,c,h0⟩:=Fa h
 have h1:=h0.dD (.cells x.cells.toArray 67)
 obtain⟨w1,hw1⟩:=aC (w.alloc (.cells x.cells.toArray 67))
 have b0:(w.alloc (.cells x.cells.toArray 67)).cell? ⟨w.heap.size,0,none⟩=some (.int .i64 x.k):=kT w x 0
 obtain⟨Bx,hBx⟩:=aC (w.heap.size)
 rw[←hw1,←hBx] at b0
 rw[←hw1] at h1
 obtain⟨n,hn⟩:=aC (s.length)
 rw[←hn] at h1
 have H1:=ah h1
 have HW1:=ah hw1
 have pF:=ah hBx
 have HN:=ah hn
 have XG:n≤40:=by omega
 clear h h0 h1 hw1 hBx hn hs
 by_cases hc:x.k=16∧dn=false
 ·obtain⟨hk,rfl⟩:=hc
  have bz:(x.k==16)=true:=by simp[hk]
  have HE:Hid (WH s i x false=s++[(i:Int)]):=ah (by unfold WH;rw[if_pos ⟨hk,rfl⟩])
  have v0:w1.cell? ⟨V,0,none⟩=some (.slice a n c):=H1.out.cell 0
  obtain⟨w2,hw2⟩:=aC (w1.alloc (.cells #[.int .i64 i] 3))
  have hB:Sat W w2 (sep (aK 3 1 a n c (s.map iv)) (sep (blk V (.cells #[.slice a n c] 22 (0,0))) B)):=by rw[hw2];exact (H1.out.dD _).p1
  have hsrc:=dS w1 [.int .i64 i] 3
  have gI:=ah hsrc
  rw[hw2] at hB
  clear hk hsrc hw2
  go_enter Tryz.func24,Tryz.ntmps24
  go_upto_region 1 with (fail)
  rw[←pF.out,←HW1.out]
  go_wp2_with (at_builtin;refine aJ rfl _ _ 22 rfl 3 1 8 _ Tryz.underlying22 wG rfl rfl hB rfl [.int .i64 i] rfl (by simp) (by intro b' hb;cases hb;exact gI.out) (by simp[Value.oneCell']) (by omega) (by unfold maxLen;omega) ?_)
  intro a2 c2 w4 h5
  have h6:=h5.p1
  have u0:=h6.aI 0
  have v1:w4.cell? ⟨V,0,none⟩=some (.slice a n c):=h6.cell 0
  have H7:=ah (h6.setCell 0 (.slice a2 (n+1) c2))
  clear h5 h6 hB
  go_wp2
  go_end0
  refine⟨rfl,?_⟩
  rw[HE.out]
  have hl:(s++[(i:Int)]).length=n+1:=by rw[dI,←HN.out];rfl
  refine GU (a:=a2) (c:=c2) ?_
  rw[hl,lS]
  exact H7.out
 ·have HE:Hid (WH s i x dn=s):=ah (by unfold WH;rw[if_neg hc])
  have iR:Hid (Sat W w1 (sep (Ej V s) B)):=ah (GU (a:=a) (c:=c) (by rw[←HN.out];exact H1.out))
  by_cases hk:x.k=16
  ·have bz:(x.k==16)=true:=by simp[hk]
   have hdn:dn=true:=by cases dn<;>simp_all
   subst hdn
   clear hc hk
   go_enter Tryz.func24,Tryz.ntmps24
   go_upto_region 1 with (fail)
   rw[←pF.out,←HW1.out]
   go_wp2
   go_end0
   exact⟨rfl,by rw[HE.out];exact iR.out⟩
  ·have bz:(x.k==16)=false:=by simp[hk]
   clear hc hk
   go_enter Tryz.func24,Tryz.ntmps24
   go_upto_region 1 with (fail)
   rw[←pF.out,←HW1.out]
   go_wp2
   go_end0
   exact⟨rfl,by rw[HE.out];exact iR.out⟩
def Fb (file:Int) (f:Ac) (xs:List Ac):List Int:=(walkT file f.d 131072 WH 0 (sortK xs) (bW f.p) []).2
set_option maxRecDepth 100000 in
set_option maxHeartbeats 2000000 in
theorem Qr {W w:World} {A:aG} {I:Mem} (file:Int) (f:Ac) (b:Addr) (n c:Nat) (xs:List Ac) (hn:xs.length=n) (h0:0<n) (lM:n<40) (hD:xs.Pairwise fD) (jL:je xs) (hw:zB (some b) n c) (hc:bP (some b) (bI xs) I)
 (hf:dF file (sortK xs)=some f) (hr:aP file 131072 (sortK xs)=0) (h:Sat W w (sep (kn I) A)):
 Calls Tryz.prog 7 #[.int .i64 file,.slice (some b) n c] w fun e w'=>∃a c' J,e=.returned (.tuple #[.slice a (Fb file f xs).length c',.int .i64 0])∧Mem.le I J∧Sat W w' (sep (aK 3 1 a (Fb file f xs).length c' ((Fb file f xs).map iv)) (sep (kn J) A)):=by
 have hmf:∀(fn:Fn) (first cap:Array Value) (w:World),(Instr.makeFunc fn first cap).run Tryz.prog w=.ok (.func fn first cap) w:=fun _ _ _ _=>rfl
 have eg:∀args w,(callFunc 24 args).run Tryz.prog w=.ok (.enter 24 args) w:=enters_of Tryz.func24 (by kernel_rfl) rfl
 have h1:Sat W (w.alloc (.cells #[.slice none 0 0] 22)) (sep (Ej w.heap.size []) (sep (kn I) A)):=GU (a:=none) (c:=0) ((h.cZ 3 1).alloc (.cells #[.slice none 0 0] 22))
 obtain⟨V,hV⟩:=aC (w.heap.size)
 obtain⟨w1,hw1⟩:=aC (w.alloc (.cells #[.slice none 0 0] 22))
 rw[←hw1,←hV] at h1
 have hwk:=ah (nU (fun s=>Ej V s) WH [] 24 #[.pointer (some ⟨V,0,none⟩)] eg (fun k s=>s.length≤k) (Nat.zero_le _) (fun k s x dn hk=>XF hk) (fun k s hk=>by omega)
  (fun s i x dn pt w B q1 q2 q3=>GV V s i x dn pt q1 q2 q3) file 131072 f b n c xs hn h0 lM hD jL hw hc hf hr h1.p1)
 obtain⟨R,hR⟩:=aC (Fb file f xs)
 rw[show (walkT file f.d 131072 WH 0 (sortK xs) (bW f.p) []).2=R from hR.symm] at hwk
 rw[←hR]
 have HV:=ah hV
 have HW1:=ah hw1
 clear hn h0 lM hD jL hw hc hf hr h h1 hV hw1 hR eg
 go_enter Tryz.func7,Tryz.ntmps7
 go_upto_region 2 with (fail)
 rw[←HV.out,←HW1.out]
 go_wp2_with fail
 refine hwk.out.mono ?_
 rintro e w2 ⟨p,J,rfl,hle,h2⟩
 obtain⟨a,c',h3⟩:=Fa (show Sat W w2 (sep (Ej V R) (sep (l9 p f.p _) (sep (kn J) A))) from h2.p2)
 have v0:w2.cell? ⟨V,0,none⟩=some (.slice a R.length c'):=h3.cell 0
 have H3:=ah h3
 have gQ:=ah hle
 clear hwk h2 h3 hle
 go_wp2
 go_ret2
 refine⟨a,c',J,rfl,gQ.out,?_⟩
 have:=H3.out.forget.p1.drop
 exact this
end Go.Proofs.YtgicfogmdfdjmaaGreatDoor
namespace Go.Proofs.YtgicfogmdfdjmaaGreatDoor
open Go.RowKit PA
attribute [local go_sem] Oper.semAt_some
theorem BI (w:World) (a b:Option Addr) (c d:Nat) (x y:List Int) (hl1:(x.length:Int)≤9223372036854775807) (hl2:(y.length:Int)≤9223372036854775807)
 (hx:x≠[]→∃g o,a=some ⟨g,o,none⟩∧∀j u,(x.map iv)[j]?=some u→w.cell? ⟨g,o+j,none⟩=some u)
 (hy:y≠[]→∃g o,b=some ⟨g,o,none⟩∧∀j u,(y.map iv)[j]?=some u→w.cell? ⟨g,o+j,none⟩=some u):
 Calls Tryz.prog 9 #[.slice a x.length c,.slice b y.length d] w fun e w'=>e=.returned (.bool (decide (x=y)))∧∃n,w'=w.drewN n:=by
 obtain⟨nx,hnx⟩:=aC (x.length)
 obtain⟨ny,hny⟩:=aC (y.length)
 have HX:=ah hx
 have HY:=ah hy
 rw[←hnx] at hl1 ⊢
 rw[←hny] at hl2 ⊢
 have oU:=ah hnx
 have HNY:=ah hny
 clear hx hy
 by_cases hne:nx=ny
 ·subst hne
  clear hnx hny
  go_enter Tryz.func9,Tryz.ntmps9
  go_wp2
  go_loopw [5] (fun i wr=>∃k:Nat,k≤nx∧i=.int .i64 k∧x.take k=y.take k∧∃n,wr=w.drewN n) (fun i _=>nx-(intOf i).toNat)
  case atStart=>exact⟨0,Nat.zero_le _,rfl,rfl,0,rfl⟩
  case round=>
   obtain⟨k,hk,rfl,htk,nd,rfl⟩:=hrel
   have HT:=ah htk
   clear htk
   by_cases hlt:k<nx
   ·have k1:k<x.length:=by have:=oU.out;omega
    have k2:k<y.length:=by have:=HNY.out;omega
    obtain⟨b1,o1,rfl,hc1⟩:=HX.out (by intro e;rw[e] at k1;simp at k1)
    obtain⟨b2,o2,rfl,hc2⟩:=HY.out (by intro e;rw[e] at k2;simp at k2)
    have g1:=hc1 k (iv x[k]) (by simp[k1])
    have g2:=hc2 k (iv y[k]) (by simp[k2])
    clear hc1 hc2
    obtain⟨xk,hxk⟩:=aC (x[k])
    obtain⟨yk,hyk⟩:=aC (y[k])
    rw[←hxk] at g1
    rw[←hyk] at g2
    have HXK:=ah hxk
    have HYK:=ah hyk
    unfold iv at g1 g2
    clear hxk hyk
    by_cases hxy:xk=yk
    ·subst hxy
     have b1:((xk:Int) !=(xk:Int))=false:=by simp
     go_wp2_with fail
     refine aA rfl (fun _=>True) [(0,.p),(1,.p),(2,.p),(3,.t),(4,.p),(5,.p),(6,.p),(7,.t),(8,.p)] (by kernel_rfl) ?_
     have hS0:True:=trivial
     (repeat ((first|(refine eF (v:=?_) rfl rfl (fun w'=>?_) ?_;rotate_left;(go_simp;with_reducible rfl))|(refine eG (v:=?_) rfl rfl hS0 (fun w' hS=>?_) ?_;rotate_left;((try dsimp only at hS);go_simp;with_reducible rfl))|(refine eH (v:=?_) rfl rfl ?_ ?_;rotate_left;(go_simp;with_reducible rfl))|(refine bD rfl rfl ?_)|(refine bG rfl rfl hS0 ?_)|(refine bH rfl rfl ?_));simp only[Act.put,lsA,lsB,bC]))
     refine bM ?_
     go_wp2
     go_roundw
     case rel=>exact⟨k+1,by omega,by go_num,by rw[List.take_succ_eq_append_getElem k1,List.take_succ_eq_append_getElem k2,HT.out,←HXK.out,←HYK.out],nd+1,rfl⟩
     case measure=>simp[intOf];omega
    ·have b1:((xk:Int) !=(yk:Int))=true:=by simp;omega
     have WC:=ah hxy
     clear hxy
     go_wp2_with fail
     refine aA rfl (fun _=>True) [(0,.p),(1,.p),(2,.p),(3,.t),(4,.p),(5,.p),(6,.p),(7,.t),(8,.p)] (by kernel_rfl) ?_
     have hS0:True:=trivial
     (repeat ((first|(refine eF (v:=?_) rfl rfl (fun w'=>?_) ?_;rotate_left;(go_simp;with_reducible rfl))|(refine eG (v:=?_) rfl rfl hS0 (fun w' hS=>?_) ?_;rotate_left;((try dsimp only at hS);go_simp;with_reducible rfl))|(refine eH (v:=?_) rfl rfl ?_ ?_;rotate_left;(go_simp;with_reducible rfl))|(refine bD rfl rfl ?_)|(refine bG rfl rfl hS0 ?_)|(refine bH rfl rfl ?_));simp only[Act.put,lsA,lsB,bC]))
     refine bM ?_
     go_wp2
     go_ret
     refine⟨UG (Eq.symm (decide_eq_false (fun e=>WC.out (by have h1:=HXK.out;have h2:=HYK.out;subst e;exact h1.trans h2.symm)))),nd+1,rfl⟩
   ·go_wp2
    go_ret
    have hkn:k=nx:=by omega
    refine⟨UG (Eq.symm (decide_eq_true ?_)),nd,rfl⟩
    have:=HT.out
    rw[hkn] at this
    rw[List.take_of_length_le (by have:=oU.out;omega),List.take_of_length_le (by have:=HNY.out;omega)] at this
    exact this
 ·have b1:((nx:Int) !=(ny:Int))=true:=by simp;omega
  go_enter Tryz.func9,Tryz.ntmps9
  go_wp2
  go_ret
  refine⟨UG (Eq.symm (decide_eq_false (fun e=>hne ?_))),0,rfl⟩
  rw[oU.out,HNY.out,e]
section
variable {W w:World} {A:aG}
theorem JO {E:Nat} {a:Option Addr} {n c:Nat} {xs:List Value} {α:Type} {x:List α} (g:α→Value) (hx:xs=x.map g) (h:Sat W w (sep (aK E 1 a n c xs) A)):x≠[]→∃b o,a=some ⟨b,o,none⟩∧∀j u,(x.map g)[j]?=some u→w.cell? ⟨b,o+j,none⟩=some u:=by
 intro hne
 obtain⟨g',e,hc⟩:=h.kD (fun e=>hne (by rw[hx] at e;exact List.map_eq_nil_iff.1 e))
 subst hx
 exact⟨g',0,e,fun j u hu=>by rw[Nat.zero_add];exact hc j u hu⟩
theorem JQ {E k:Nat} {a:Option Addr} {n c:Nat} {xs:List Value} (h:Sat W w (sep (aK E k a n c xs) A)):(n:Int)≤9223372036854775807:=by
 have:=h.fA
 have h1:=this.1;have h2:=this.2.1;unfold maxLen at h2;omega
theorem uo (a b:Option Addr) (c d:Nat) (x y:List Int) (h:Sat W w (sep (aK 3 1 a x.length c (x.map iv)) (sep (aK 3 1 b y.length d (y.map iv)) A))):
 Calls Tryz.prog 9 #[.slice a x.length c,.slice b y.length d] w fun e w'=>e=.returned (.bool (decide (x=y)))∧Sat W w' A:=by
 refine (BI w a b c d x y (JQ h) (JQ h.p1) (JO iv rfl h) (JO iv rfl h.p1)).mono ?_
 rintro e w' ⟨rfl,n,rfl⟩
 exact⟨rfl,h.cO.cO.alike rfl rfl rfl rfl⟩
theorem BJ {E k:Nat} (h:Sat W w A) (xs:List Value) (n:Nat) (hn:n*k=xs.length) (hl:n≤maxLen):Sat W (w.alloc (.cells xs.toArray E)) (sep (aK E k (some ⟨w.heap.size,0,none⟩) n n xs) A):=by
 exact (h.alloc (.cells xs.toArray E)).lI n n k xs (by simp[hn]) (Nat.le_refl _) hl (by simp[hn]) (by simp[hn])
end
theorem XH (own:List (Int×Rt)) (i:Nat) (hi:i<own.length):(iJ own)[i*3]?=some (.int .i64 own[i].1)∧(iJ own)[i*3+1]?=some (.int .i64 own[i].2.n)∧(iJ own)[i*3+2]?=some (.int .i64 own[i].2.d):=by
 have e:own=own.take i++own[i]::own.drop (i+1):=by rw[←List.drop_eq_getElem_cons hi,List.take_append_drop]
 have hl:(iJ (own.take i)).length=i*3:=by rw[JM,List.length_take,Nat.min_eq_left (by omega)]
 have key:∀j,j<3→(iJ own)[i*3+j]?=([Value.int .i64 own[i].1,.int .i64 own[i].2.n,.int .i64 own[i].2.d])[j]?:=fun j hj=>by
  conv=>lhs;rw[e]
  unfold iJ at hl ⊢
  rw[List.flatMap_append,List.getElem?_append_right (by omega),hl,Nat.add_sub_cancel_left,List.flatMap_cons,List.getElem?_append_left (by simpa using hj)]
 exact⟨key 0 (by omega),key 1 (by omega),key 2 (by omega)⟩
theorem xY {W w:World} {A:aG} {E:Nat} {a:Option Addr} {n c:Nat} {own:List (Int×Rt)} (hn:own.length=n) (h:Sat W w (sep (aK E 3 a n c (iJ own)) A)) (i:Nat) (hi:i<n):
 ∃g x r,a=some ⟨g,0,none⟩∧own[i]?=some (x,r)∧w.cell? ⟨g,i*3,none⟩=some (.int .i64 x)∧w.cell? ⟨g,i*3+1,none⟩=some (.int .i64 r.n)∧w.cell? ⟨g,i*3+2,none⟩=some (.int .i64 r.d):=by
 have hil:i<own.length:=by omega
 obtain⟨g,rfl,hc⟩:=h.kD (fun e=>by have:=congrArg List.length e;rw[JM,List.length_nil] at this;omega)
 obtain⟨k0,k1,k2⟩:=XH own i hil
 exact⟨g,own[i].1,own[i].2,rfl,by rw[List.getElem?_eq_getElem hil],hc _ _ k0,hc _ _ k1,hc _ _ k2⟩
theorem GX:(Tryz.prog.info? 81).map (fun i=>(i.zero,i.size,i.bytes))=some (some (.agg #[.int .i64 0,.int .i64 0,.int .i64 0]),3,24):=by kernel_rfl
theorem Qs {own:List (Int×Rt)} {k:Nat} {x:Int} {r:Rt} (h:own[k]?=some (x,r)):iJ (own.take (k+1))=iJ (own.take k)++[.int .i64 x,.int .i64 r.n,.int .i64 r.d]:=by
 obtain⟨hk,e⟩:=List.getElem?_eq_some_iff.1 h
 rw[List.take_succ_eq_append_getElem hk,e]
 unfold iJ
 rw[List.flatMap_append];rfl
set_option maxHeartbeats 1000000 in
theorem BK {W w:World} {A:aG} (a:Option Addr) (n c:Nat) (own:List (Int×Rt)) (hn:own.length=n) (h10:n≤20000) (h:Sat W w (sep (aK 80 3 a n c (iJ own)) A)):
 Calls Tryz.prog 13 #[.slice a n c] w fun e w'=>∃a' c',e=.returned (.slice a' n c')∧Sat W w' (sep (aK 81 3 a' n c' (iJ own)) (sep (aK 80 3 a n c (iJ own)) A)):=by
 have HN:=ah hn
 have H:=ah h
 have hnI:(n:Int)≤20000:=by omega
 clear hn h
 go_enter Tryz.func13,Tryz.ntmps13
 go_wp2
 go_loopw [4,3] (fun kv ov wr=>∃(k:Nat) (a1:Option Addr) (c1:Nat) (vs:List Value),kv=.int .i64 k∧k≤n∧ov=.slice a1 k c1∧Hid (vs=iJ (own.take k))∧Sat W wr (sep (aK 81 3 a1 k c1 vs) (sep (aK 80 3 a n c (iJ own)) A))) (fun kv _ _=>n-(intOf kv).toNat)
 case atStart=>exact⟨0,none,0,[],rfl,by omega,rfl,ah rfl,H.out.cZ _ _⟩
 case round=>
  obtain⟨k,a1,c1,vs,rfl,hk,rfl,HV,hS⟩:=hrel
  by_cases hlt:k<n
  ·have hltz:(k:Int)<(n:Int):=by omega
   have XC:(k:Int)≤20000:=by omega
   have hd:=hS.drew
   obtain⟨wd,hwd⟩:=aC (wr.drew)
   rw[←hwd] at hd
   obtain⟨g,x,r,rfl,hx,k0,k1,k2⟩:=xY HN.out hd.p1 k hlt
   obtain⟨rn,rd⟩:=r
   have hB:Sat W (wd.alloc (.cells #[.int .i64 x,.int .i64 rn,.int .i64 rd] 81)) (sep (aK 81 3 a1 k c1 vs) (sep (aK 80 3 (some ⟨g,0,none⟩) n c (iJ own)) A)):=hd.dD _
   have gI:=ah (dS wd [.int .i64 x,.int .i64 rn,.int .i64 rd] 81)
   have HX:=ah hx
   have kR:=ah hwd
   have HB:=ah hB
   clear hd hwd hB hx hS H
   go_wp2_with fail
   refine aA rfl (fun _=>True) [(0,.p),(1,.p),(2,.p),(3,.p),(4,.p),(5,.t),(6,.p),(7,.p),(8,.p),(9,.p),(10,.t),(11,.p),(12,.e false),(13,.e false),(14,.p)] (by kernel_rfl) ?_
   have hS0:True:=trivial
   rw[←kR.out]
   (repeat ((first|(refine eF (v:=?_) rfl rfl (fun w'=>?_) ?_;rotate_left;(go_simp;with_reducible rfl))|(refine eG (v:=?_) rfl rfl hS0 (fun w' hS=>?_) ?_;rotate_left;((try dsimp only at hS);go_simp;with_reducible rfl))|(refine eH (v:=?_) rfl rfl ?_ ?_;rotate_left;(go_simp;with_reducible rfl))|(refine bD rfl rfl ?_)|(refine bG rfl rfl hS0 ?_)|(refine bH rfl rfl ?_));simp only[Act.put,lsA,lsB,bC]))
   clear k0 k1 k2
   (refine iQ rfl rfl (fun K hK=>?_);go_simp)
   (refine hK _ _ (fun h=>by cases h) ?_;clear hK K;(try simp only[Act.put,lsA,lsB,bC]))
   refine iQ rfl rfl (fun K hK=>?_)
   refine fO (.tmp 11) (.tmp 23) 34 rfl 81 3 24 _ Tryz.underlying34 GX rfl rfl HB.out rfl [.int .i64 x,.int .i64 rn,.int .i64 rd] rfl (by simp) (by intro b' hb;cases hb;exact gI.out) (by simp[Value.oneCell']) (by omega) (by unfold maxLen;omega) ?_
   intro a2 c2 w4 h5
   have H5:=ah h5
   clear h5 HB gI
   (refine hK _ _ (fun h=>by cases h) ?_;clear hK K;(try simp only[Act.put,lsA,lsB,bC]))
   (repeat ((first|(refine eF (v:=?_) rfl rfl (fun w'=>?_) ?_;rotate_left;(go_simp;with_reducible rfl))|(refine eG (v:=?_) rfl rfl hS0 (fun w' hS=>?_) ?_;rotate_left;((try dsimp only at hS);go_simp;with_reducible rfl))|(refine eH (v:=?_) rfl rfl ?_ ?_;rotate_left;(go_simp;with_reducible rfl))|(refine bD rfl rfl ?_)|(refine bG rfl rfl hS0 ?_)|(refine bH rfl rfl ?_));simp only[Act.put,lsA,lsB,bC]))
   refine bM ?_
   go_wp2
   go_roundw
   case rel=>exact⟨k+1,a2,c2,_,by go_num,by omega,rfl,ah (by rw[Qs HX.out,←HV.out]),H5.out⟩
   case measure=>simp[intOf];omega
  ·obtain rfl:k=n:=by omega
   have HS:=ah hS
   clear hS
   go_wp2
   go_ret
   refine⟨a1,c1,rfl,?_⟩
   have e:vs=iJ own:=by rw[HV.out,List.take_of_length_le (by rw[HN.out];exact Nat.le_refl _)]
   have h9:=HS.out
   rw[e] at h9
   exact h9
theorem O9 (w:World) (a b c a' b' c':Int):(binOp .neq 81 (.agg #[.int .i64 a,.int .i64 b,.int .i64 c]) (.agg #[.int .i64 a',.int .i64 b',.int .i64 c'])).run Tryz.prog w=.ok (.bool (!(a==a'&&(b==b'&&c==c')))) w:=by
 have h1:Tryz.prog.underlying 81=some (.struct (Tryz.prog.fieldsOf 81)):=by kernel_rfl
 have h2:Tryz.prog.stoodInHeld 81=false:=by kernel_rfl
 have h3:Tryz.prog.underlying 57=some (.struct (Tryz.prog.fieldsOf 57)):=by kernel_rfl
 have h4:Tryz.prog.stoodInHeld 57=false:=by kernel_rfl
 have e:=run_equalIn_struct (P:=Tryz.prog) w 9999 81 #[.int .i64 a,.int .i64 b,.int .i64 c] #[.int .i64 a',.int .i64 b',.int .i64 c'] h1 h2
 rw[run_neq_struct,e]
 clear e
 have q0:∀a b c:Int,(part 3 #[.int .i64 a,.int .i64 b,.int .i64 c] 0).run Tryz.prog w=.ok (.int .i64 a) w:=fun a b c=>by kernel_rfl
 have q1:∀a b c:Int,(part 57 #[.int .i64 a,.int .i64 b,.int .i64 c] 1).run Tryz.prog w=.ok (.agg #[.int .i64 b,.int .i64 c]) w:=fun a b c=>by kernel_rfl
 have p0:∀a b:Int,(part 3 #[.int .i64 a,.int .i64 b] 0).run Tryz.prog w=.ok (.int .i64 a) w:=fun a b=>by kernel_rfl
 have p1:∀a b:Int,(part 3 #[.int .i64 a,.int .i64 b] 1).run Tryz.prog w=.ok (.int .i64 b) w:=fun a b=>by kernel_rfl
 have r0:∀a b:Int,(Op.equalIn 9999 3 (.int .i64 a) (.int .i64 b)).run Tryz.prog w=.ok (a==b) w:=fun a b=>run_equalIn_int (P:=Tryz.prog) w 9998 3 .i64 .i64 a b Tryz.underlying3
 have r1:∀a b:Int,(Op.equalIn 9998 3 (.int .i64 a) (.int .i64 b)).run Tryz.prog w=.ok (a==b) w:=fun a b=>run_equalIn_int (P:=Tryz.prog) w 9997 3 .i64 .i64 a b Tryz.underlying3
 have e2:∀b c b' c':Int,(Op.equalIn 9999 57 (.agg #[.int .i64 b,.int .i64 c]) (.agg #[.int .i64 b',.int .i64 c'])).run Tryz.prog w=.ok (b==b'&&c==c') w:=fun b c b' c'=>by
  have e3:=run_equalIn_struct (P:=Tryz.prog) w 9998 57 #[.int .i64 b,.int .i64 c] #[.int .i64 b',.int .i64 c'] h3 h4
  rw[show (9998+1:Nat)=9999 from rfl] at e3
  rw[e3]
  by_cases z2:b=b'
  ·by_cases z3:c=c'<;>simp[Program.fieldsOf,Tryz.underlying57,Op.eqFields,p0,p1,r1,z2,z3]
  ·simp[Program.fieldsOf,Tryz.underlying57,Op.eqFields,p0,r1,z2]
 by_cases z1:a=a'
 ·by_cases z2:b=b'<;>by_cases z3:c=c'<;>simp[Program.fieldsOf,Tryz.underlying81,Op.eqFields,q0,q1,r0,e2,z1,z2,z3]
 ·simp[Program.fieldsOf,Tryz.underlying81,Op.eqFields,q0,r0,z1]
set_option maxHeartbeats 1000000 in
theorem qx {W w:World} {A:aG} (a b:Option Addr) (n m c d:Nat) (x y:List (Int×Rt)) (hn:x.length=n) (hm:y.length=m) (h10:n≤20000) (h11:m≤20000) (h:Sat W w (sep (aK 81 3 a n c (iJ x)) (sep (aK 81 3 b m d (iJ y)) A))):
 Calls Tryz.prog 12 #[.slice a n c,.slice b m d] w fun e w'=>e=.returned (.bool (decide (x=y)))∧Sat W w' (sep (aK 81 3 a n c (iJ x)) (sep (aK 81 3 b m d (iJ y)) A)):=by
 obtain⟨rv,fQ⟩:=aC (decide (x=y))
 rw[←fQ]
 have dP:=ah fQ
 have HN:=ah (And.intro hn hm)
 have H:=ah h
 have hnI:(n:Int)≤20000:=by omega
 have hmI:(m:Int)≤20000:=by omega
 clear fQ hn hm h
 by_cases hne:n=m
 ·subst hne
  go_enter Tryz.func12,Tryz.ntmps12
  go_wp2
  go_loopw [5] (fun kv wr=>∃k:Nat,kv=.int .i64 k∧k≤n∧Hid (x.take k=y.take k)∧Sat W wr (sep (aK 81 3 a n c (iJ x)) (sep (aK 81 3 b n d (iJ y)) A))) (fun kv _=>n-(intOf kv).toNat)
  case atStart=>exact⟨0,rfl,by omega,ah rfl,H.out⟩
  case round=>
   obtain⟨k,rfl,hk,HK,hS⟩:=hrel
   by_cases hlt:k<n
   ·have hltz:(k:Int)<(n:Int):=by omega
    have XC:(k:Int)≤20000:=by omega
    have hd:=hS.drew
    obtain⟨wd,hwd⟩:=aC (wr.drew)
    rw[←hwd] at hd
    obtain⟨g,x1,r1,rfl,hx1,k0,k1,k2⟩:=xY HN.out.1 hd k hlt
    obtain⟨g',x2,r2,rfl,hx2,j0,j1,j2⟩:=xY HN.out.2 hd.p1 k hlt
    obtain⟨n1,d1⟩:=r1
    obtain⟨n2,d2⟩:=r2
    have hq:=O9 wd x1 n1 d1 x2 n2 d2
    obtain⟨bq,hbq⟩:=aC (!(x1==x2&&(n1==n2&&d1==d2)))
    rw[←hbq] at hq
    have hiff:bq=false↔(x1,(⟨n1,d1⟩:Rt))=(x2,⟨n2,d2⟩):=by
     rw[hbq]
     simp
    have HQ:=ah hiff
    have HX:=ah (And.intro hx1 hx2)
    have kR:=ah hwd
    have HD:=ah hd
    have hq2:=fun w0=>O9 w0 x1 n1 d1 x2 n2 d2
    rw[←hbq] at hq2
    clear hd hwd hx1 hx2 hS H hiff hbq hq
    go_wp2_with fail
    refine aA rfl (fun _=>True) [(0,.p),(1,.p),(2,.p),(3,.t),(4,.p),(5,.p),(6,.p),(7,.t),(8,.p)] (by kernel_rfl) ?_
    have hS0:True:=trivial
    rw[←kR.out]
    (repeat ((first|(refine eF (v:=?_) rfl rfl (fun w'=>?_) ?_;rotate_left;(go_simp;with_reducible rfl))|(refine eG (v:=?_) rfl rfl hS0 (fun w' hS=>?_) ?_;rotate_left;((try dsimp only at hS);go_simp;with_reducible rfl))|(refine eH (v:=?_) rfl rfl ?_ ?_;rotate_left;(go_simp;with_reducible rfl))|(refine bD rfl rfl ?_)|(refine bG rfl rfl hS0 ?_)|(refine bH rfl rfl ?_));simp only[Act.put,lsA,lsB,bC]))
    refine bM ?_
    clear k0 k1 k2 j0 j1 j2 hq2
    cases bq with
    | false=>
     go_wp2
     go_roundw
     case rel=>
      refine⟨k+1,by go_num,by omega,ah ?_,HD.out⟩
      obtain⟨l1,e1⟩:=List.getElem?_eq_some_iff.1 HX.out.1
      obtain⟨l2,e2⟩:=List.getElem?_eq_some_iff.1 HX.out.2
      rw[List.take_succ_eq_append_getElem l1,List.take_succ_eq_append_getElem l2,HK.out,e1,e2,HQ.out.1 rfl]
     case measure=>simp[intOf];omega
    | true=>
     go_wp2
     go_ret
     refine⟨?_,HD.out⟩
     have hne:x≠y:=fun e=>by
      have h1:=HX.out.1
      rw[e,HX.out.2] at h1
      have:=HQ.out.2 (Option.some.inj h1).symm
      cases this
     rw[dP.out,decide_eq_false hne];rfl
   ·obtain rfl:k=n:=by omega
    have HS:=ah hS
    clear hS
    go_wp2
    go_ret
    refine⟨?_,HS.out⟩
    have he:x=y:=by
     have:=HK.out
     rwa [List.take_of_length_le (by rw[HN.out.1];exact Nat.le_refl _),List.take_of_length_le (by rw[HN.out.2];exact Nat.le_refl _)] at this
    rw[dP.out,decide_eq_true he];rfl
 ·have bz:((n:Int) !=(m:Int))=true:=by simp;omega
  have hne2:x≠y:=fun e=>hne (by rw[←HN.out.1,←HN.out.2,e])
  have Zv:=ah hne2
  clear hne hne2
  go_enter Tryz.func12,Tryz.ntmps12
  go_wp2
  go_ret
  exact⟨by rw[dP.out,decide_eq_false Zv.out];rfl,H.out⟩
end Go.Proofs.YtgicfogmdfdjmaaGreatDoor
namespace PA
open Go
def rP (S:l7):Prop:=∀k,(S k).isSome=true→0≤k∧k<(10001:Nat)
def Known (x:Ac):Prop:=(0≤x.p∧x.p<(10001:Nat))∧0≤x.q∧x.q<(10001:Nat)
theorem rP.first {p:Int} (h:0≤p∧p<(10001:Nat)):rP (bW p):=by
 intro k hk
 unfold bW jd at hk
 split at hk
 ·rename_i e;rw[e];exact h
 ·cases hk
theorem rP.set {S:l7} (h:rP S) {p:Int} (hp:0≤p∧p<(10001:Nat)) (r:Rt):rP (jd S p r):=by
 intro k hk
 unfold jd at hk
 split at hk
 ·rename_i e;rw[e];exact hp
 ·exact h k hk
theorem Qu {S:l7} (h:rP S) (x:Ac) (hx:x.k=16→Known x):rP (PA.stepT S x).1:=by
 unfold PA.stepT
 split
 ·rename_i e
  unfold lN
  split
  ·exact h
  ·split
   ·exact h
   ·exact (h.set (hx e).1 _).set (hx e).2 _
 ·exact h
theorem sW {σ:Type} (file fK day:Int) (ev:σ→Nat→Ac→Bool→σ):∀(l:List Ac) (i:Nat) (S:l7) (s:σ),rP S→(∀x∈l,x.k=16→Known x)→rP (walkT file fK day ev i l S s).1
 | [],_,_,_,h,_=>h
 | x::l,i,S,s,h,hl=>by
  unfold walkT
  split
  ·exact sW file fK day ev l _ _ _ (Qu h x (hl x (by simp))) fun y hy=>hl y (by simp[hy])
  ·exact sW file fK day ev l _ _ _ h fun y hy=>hl y (by simp[hy])
def mX (k d n f p q:Int) (r:Rt):Ac:=⟨k,d,n,f,0,p,q,0,0,r.n,r.d,Sv.none,Sv.none,Sv.none,Sv.none,0,0,Sv.none,Sv.none⟩
def UH:Ac:=mX 0 10 0 4 1 (-1) ⟨0,0⟩
def exB:Ac:=mX 16 20 1 4 1 2 ⟨1,3⟩
def exC:Ac:=mX 16 30 2 4 2 3 ⟨1,2⟩
def DV:List Ac:=[UH,exB,exC]
def exS:l7:=jd (jd (bW 1) 1 ⟨2,3⟩) 2 ⟨1,3⟩
def Fe:List (Int×Rt):=[(1,⟨2,3⟩),(2,⟨1,3⟩)]
end PA
namespace Go.Proofs.YtgicfogmdfdjmaaGreatDoor
open PA
theorem zZ:DV.Pairwise fD:=by
 unfold DV fD
 simp[UH,exB,exC,mX]
theorem XI:Asc cmpK DV:=by
 unfold DV Asc
 simp[UH,exB,exC,mX,cmpK]
theorem rQ:sortK DV=DV:=(BF (.refl _) XI zZ).symm
theorem BL:je DV:=by
 intro x hx hk
 simp only[DV,List.mem_cons,List.not_mem_nil,or_false] at hx
 rcases hx with rfl|rfl|rfl
 ·exact absurd hk (by decide)
 ·exact⟨by decide,by decide⟩
 ·exact⟨by decide,by decide⟩
theorem Qv:∀x∈DV,x.k=16→Known x:=by
 intro x hx hk
 simp only[DV,List.mem_cons,List.not_mem_nil,or_false] at hx
 rcases hx with rfl|rfl|rfl
 ·exact absurd hk (by decide)
 ·unfold Known;decide
 ·unfold Known;decide
theorem sZ:dF 4 (sortK DV)=some UH:=by rw[rQ];rfl
theorem aaD:kH 4 25 UH DV=exS:=by
 unfold kH
 rw[rQ]
 rfl
theorem aaE:kH 4 40 UH DV=exS:=by
 unfold kH
 rw[rQ]
 rfl
theorem exF:Fb 4 UH DV=[2]:=by
 unfold Fb
 rw[rQ]
 rfl
theorem UJ:E5 exS Fe:=by
 refine⟨by simp[Fe],fun p r=>?_⟩
 unfold exS bW jd Fe
 by_cases h2:p=2
 ·subst h2
  simp
  constructor
  ·rintro rfl;exact⟨rfl,by decide⟩
  ·rintro⟨h,-⟩;exact h.symm
 ·by_cases h1:p=1
  ·subst h1
   simp
   constructor
   ·rintro rfl;exact⟨rfl,by decide⟩
   ·rintro⟨h,-⟩;exact h.symm
  ·simp[h1,h2]
theorem UK (day:Int) (h:10≤day) (h2:day≤131072):aP 4 day (sortK DV)=0:=by
 unfold aP
 rw[sZ,if_neg (by omega)]
 show (if day<10 then 7 else 0)=0
 rw[if_neg (by omega)]
theorem Zw (day:Int):∀k,(kH 4 day UH DV k).isSome=true→0≤k∧k<(10001:Nat):=by
 unfold kH
 rw[rQ]
 exact sW _ _ _ _ _ _ _ _ (rP.first (by decide)) Qv
end Go.Proofs.YtgicfogmdfdjmaaGreatDoor
namespace Go.Proofs.YtgicfogmdfdjmaaGreatDoor
open Go.RowKit PA
structure Hl where
 a:Int
 b:Int
 c:Int
 d:Int
 deriving DecidableEq
def jG (s:List Hl):List Value:=s.flatMap fun h=>[.int .i64 h.a,.int .i64 h.b,.int .i64 h.c,.int .i64 h.d]
theorem Aa (s:List Hl):(jG s).length=s.length*4:=by
 induction s with
 | nil=>rfl
 | cons x xs ih=>rw[jG,List.flatMap_cons,dI,←jG,ih,List.length_cons];simp;omega
theorem pR (s t:List Hl):jG (s++t)=jG s++jG t:=by simp[jG]
theorem QC:(Tryz.prog.info? 83).map (fun i=>(i.zero,i.size,i.bytes))=some (some (.agg #[.int .i64 0,.int .i64 0,.int .i64 0,.int .i64 0]),4,32):=by kernel_rfl
def LP (day:Int) (s:List Hl) (_:Nat) (x:Ac) (dn:Bool):List Hl:=if x.k=17∧dn=true∧day≤x.u then s++[⟨x.p,x.q,x.d,x.u⟩] else s
theorem XO {day:Int} {s:List Hl} {i:Nat} {x:Ac} {dn:Bool} (h:s.length≤i):(LP day s i x dn).length≤i+1:=by
 unfold LP
 split
 ·rw[dI,List.length_singleton];omega
 ·omega
def Eo (D V:Nat) (day:Int) (s:List Hl):aG:=ex fun ac:Option Addr×Nat=>sep (blk V (.cells #[.slice ac.1 s.length ac.2] 41 (0,0))) (sep (aK 83 4 ac.1 s.length ac.2 (jG s)) (blk D (.cells #[.int .i64 day] 3 (0,0))))
theorem yg {W w:World} {A:aG} {D V:Nat} {day:Int} {s:List Hl} (h:Sat W w (sep (Eo D V day s) A)):∃a c,Sat W w (sep (blk V (.cells #[.slice a s.length c] 41 (0,0))) (sep (aK 83 4 a s.length c (jG s)) (sep (blk D (.cells #[.int .i64 day] 3 (0,0))) A))):=by
 rw[Eo,dA,Sat.ex] at h
 obtain⟨⟨a,c⟩,h⟩:=h
 rw[aj,aj] at h
 exact⟨a,c,h⟩
theorem G6 {W w:World} {A:aG} {D V:Nat} {day:Int} {s:List Hl} {a:Option Addr} {c:Nat} (h:Sat W w (sep (blk V (.cells #[.slice a s.length c] 41 (0,0))) (sep (aK 83 4 a s.length c (jG s)) (sep (blk D (.cells #[.int .i64 day] 3 (0,0))) A)))):Sat W w (sep (Eo D V day s) A):=by
 rw[Eo,dA,Sat.ex]
 exact⟨(a,c),by rw[aj,aj];exact h⟩
set_option maxHeartbeats 2000000 in
theorem BR {W w:World} {B:aG} (D V:Nat) (day:Int) (s:List Hl) (i:Nat) (x:Ac) (dn:Bool) (pt:Value) (hi:i<40) (hs:s.length≤i) (h:Sat W w (sep (Eo D V day s) B)):
 Calls Tryz.prog 27 #[pt,.int .i64 i,.agg x.cells.toArray,.bool dn,.pointer (some ⟨D,0,none⟩),.pointer (some ⟨V,0,none⟩)] w fun e w'=>e=.returned (.tuple #[])∧Sat W w' (sep (Eo D V day (LP day s i x dn)) B):=by
 obtain⟨a,c,h0⟩:=yg h
 have h1:=h0.dD (.cells x.cells.toArray 67)
 obtain⟨w1,hw1⟩:=aC (w.alloc (.cells x.cells.toArray 67))
 have b0:(w.alloc (.cells x.cells.toArray 67)).cell? ⟨w.heap.size,0,none⟩=some (.int .i64 x.k):=kT w x 0
 have b1:(w.alloc (.cells x.cells.toArray 67)).cell? ⟨w.heap.size,1,none⟩=some (.int .i64 x.d):=kT w x 1
 have b5:(w.alloc (.cells x.cells.toArray 67)).cell? ⟨w.heap.size,5,none⟩=some (.int .i64 x.p):=kT w x 5
 have b6:(w.alloc (.cells x.cells.toArray 67)).cell? ⟨w.heap.size,6,none⟩=some (.int .i64 x.q):=kT w x 6
 have b7:(w.alloc (.cells x.cells.toArray 67)).cell? ⟨w.heap.size,7,none⟩=some (.int .i64 x.u):=kT w x 7
 obtain⟨Bx,hBx⟩:=aC (w.heap.size)
 rw[←hw1,←hBx] at b0 b1 b5 b6 b7
 rw[←hw1] at h1
 obtain⟨n,hn⟩:=aC (s.length)
 rw[←hn] at h1
 have d0:w1.cell? ⟨D,0,none⟩=some (.int .i64 day):=h1.p2.cell 0
 have H1:=ah h1
 have HW1:=ah hw1
 have pF:=ah hBx
 have HN:=ah hn
 have XG:n≤40:=by omega
 clear h h0 h1 hw1 hBx hn hs
 by_cases hc:x.k=17∧dn=true∧day≤x.u
 ·obtain⟨hk,rfl,hu⟩:=hc
  have HE:Hid (LP day s i x true=s++[⟨x.p,x.q,x.d,x.u⟩]):=ah (by unfold LP;rw[if_pos ⟨hk,rfl,hu⟩])
  rw[hk] at b0
  have v0:w1.cell? ⟨V,0,none⟩=some (.slice a n c):=H1.out.cell 0
  obtain⟨w2,hw2⟩:=aC (w1.alloc (.cells #[.int .i64 x.p,.int .i64 x.q,.int .i64 x.d,.int .i64 x.u] 83))
  have hB:Sat W w2 (sep (aK 83 4 a n c (jG s)) (sep (blk V (.cells #[.slice a n c] 41 (0,0))) (sep (blk D (.cells #[.int .i64 day] 3 (0,0))) B))):=by rw[hw2];exact (H1.out.dD _).p1
  have hsrc:=dS w1 [.int .i64 x.p,.int .i64 x.q,.int .i64 x.d,.int .i64 x.u] 83
  have gI:=ah hsrc
  rw[hw2] at hB
  clear hk hsrc hw2
  go_enter Tryz.func27,Tryz.ntmps27
  go_upto_region 1 with (fail)
  rw[←pF.out,←HW1.out]
  go_wp2_with (at_builtin;refine aJ rfl _ _ 41 rfl 83 4 32 _ Tryz.underlying41 QC rfl rfl hB rfl [.int .i64 x.p,.int .i64 x.q,.int .i64 x.d,.int .i64 x.u] rfl (by simp) (by intro b' hb;cases hb;exact gI.out) (by simp[Value.oneCell']) (by omega) (by unfold maxLen;omega) ?_)
  intro a2 c2 w4 h5
  have h6:=h5.p1
  have u0:=h6.aI 0
  have v1:w4.cell? ⟨V,0,none⟩=some (.slice a n c):=h6.cell 0
  have H7:=ah (h6.setCell 0 (.slice a2 (n+1) c2))
  clear h5 h6 hB
  go_wp2
  go_end0
  refine⟨rfl,?_⟩
  rw[HE.out]
  have hl:(s++[(⟨x.p,x.q,x.d,x.u⟩:Hl)]).length=n+1:=by rw[dI,←HN.out];rfl
  refine G6 (a:=a2) (c:=c2) ?_
  rw[hl,pR]
  exact H7.out
 ·have HE:Hid (LP day s i x dn=s):=ah (by unfold LP;rw[if_neg hc])
  have iR:Hid (Sat W w1 (sep (Eo D V day s) B)):=ah (G6 (a:=a) (c:=c) (by rw[←HN.out];exact H1.out))
  clear b1 b5 b6
  by_cases hk:x.k=17
  ·by_cases hdn:dn=true
   ·have hu:¬day≤x.u:=fun e=>hc ⟨hk,hdn,e⟩
    rw[hk] at b0
    subst hdn
    clear hc hk
    go_enter Tryz.func27,Tryz.ntmps27
    go_upto_region 1 with (fail)
    rw[←pF.out,←HW1.out]
    go_wp2
    go_end0
    exact⟨rfl,by rw[HE.out];exact iR.out⟩
   ·have hdn:dn=false:=by cases dn<;>simp_all
    rw[hk] at b0
    subst hdn
    clear hc hk
    go_enter Tryz.func27,Tryz.ntmps27
    go_upto_region 1 with (fail)
    rw[←pF.out,←HW1.out]
    go_wp2
    go_end0
    exact⟨rfl,by rw[HE.out];exact iR.out⟩
  ·have bz:(x.k==17)=false:=by simp[hk]
   clear hc hk
   go_enter Tryz.func27,Tryz.ntmps27
   go_upto_region 1 with (fail)
   rw[←pF.out,←HW1.out]
   go_wp2
   go_end0
   exact⟨rfl,by rw[HE.out];exact iR.out⟩
def Ko (file day:Int) (f:Ac) (xs:List Ac):List Hl:=(walkT file f.d day (LP day) 0 (sortK xs) (bW f.p) []).2
set_option maxRecDepth 100000 in
set_option maxHeartbeats 2000000 in
theorem Kq {W w:World} {A:aG} {I:Mem} (file day:Int) (f:Ac) (b:Addr) (n c:Nat) (xs:List Ac) (hn:xs.length=n) (h0:0<n) (lM:n<40) (hD:xs.Pairwise fD) (jL:je xs) (hw:zB (some b) n c) (hc:bP (some b) (bI xs) I)
 (hf:dF file (sortK xs)=some f) (hr:aP file day (sortK xs)=0) (h:Sat W w (sep (kn I) A)):
 Calls Tryz.prog 15 #[.int .i64 file,.int .i64 day,.slice (some b) n c] w fun e w'=>∃a c' J,e=.returned (.tuple #[.slice a (Ko file day f xs).length c',.int .i64 0])∧Mem.le I J∧Sat W w' (sep (aK 83 4 a (Ko file day f xs).length c' (jG (Ko file day f xs))) (sep (kn J) A)):=by
 have hmf:∀(fn:Fn) (first cap:Array Value) (w:World),(Instr.makeFunc fn first cap).run Tryz.prog w=.ok (.func fn first cap) w:=fun _ _ _ _=>rfl
 have eg:∀args w,(callFunc 27 args).run Tryz.prog w=.ok (.enter 27 args) w:=enters_of Tryz.func27 (by kernel_rfl) rfl
 obtain⟨D,hD'⟩:=aC (w.heap.size)
 obtain⟨w0,hw0⟩:=aC (w.alloc (.cells #[.int .i64 day] 3))
 have h0':=h.alloc (.cells #[.int .i64 day] 3)
 rw[←hw0,←hD'] at h0'
 obtain⟨V,hV⟩:=aC (w0.heap.size)
 obtain⟨w1,hw1⟩:=aC (w0.alloc (.cells #[.slice none 0 0] 41))
 have h1:Sat W w1 (sep (Eo D V day []) (sep (kn I) A)):=by
  rw[hw1,hV]
  exact G6 (a:=none) (c:=0) ((h0'.cZ 83 4).alloc (.cells #[.slice none 0 0] 41))
 have d0:w1.cell? ⟨D,0,none⟩=some (.int .i64 day):=by
  obtain⟨a',c',hh⟩:=yg h1
  exact hh.p2.cell 0
 have hwk:=ah (nU (fun s=>Eo D V day s) (LP day) [] 27 #[.pointer (some ⟨D,0,none⟩),.pointer (some ⟨V,0,none⟩)] eg (fun k s=>s.length≤k) (Nat.zero_le _) (fun k s x dn hk=>XO hk) (fun k s hk=>by omega)
  (fun s i x dn pt w B q1 q2 q3=>BR D V day s i x dn pt q1 q2 q3) file day f b n c xs hn h0 lM hD jL hw hc hf hr h1.p1)
 obtain⟨R,hR⟩:=aC (Ko file day f xs)
 rw[show (walkT file f.d day (LP day) 0 (sortK xs) (bW f.p) []).2=R from hR.symm] at hwk
 rw[←hR]
 have HV:=ah hV
 have HW1:=ah hw1
 have HD:=ah hD'
 have HW0:=ah hw0
 clear hn h0 lM hD jL hw hc hf hr h h1 h0' hV hw1 hD' hw0 hR eg
 go_enter Tryz.func15,Tryz.ntmps15
 go_upto_region 1 with (fail)
 rw[←HD.out,←HW0.out]
 go_upto_region 2 with (fail)
 rw[←HV.out,←HW1.out]
 go_wp2_with fail
 refine hwk.out.mono ?_
 rintro e w2 ⟨p,J,rfl,hle,h2⟩
 obtain⟨a,c',h3⟩:=yg (show Sat W w2 (sep (Eo D V day R) (sep (l9 p f.p _) (sep (kn J) A))) from h2.p2)
 have v0:w2.cell? ⟨V,0,none⟩=some (.slice a R.length c'):=h3.cell 0
 have H3:=ah h3
 have gQ:=ah hle
 clear hwk h2 h3 hle
 go_wp2
 go_ret2
 refine⟨a,c',J,rfl,gQ.out,?_⟩
 have:=H3.out.forget.p1.drop.p1.drop
 exact this
end Go.Proofs.YtgicfogmdfdjmaaGreatDoor
namespace Go.Proofs.YtgicfogmdfdjmaaGreatDoor
open Go.RowKit PA
attribute [local go_sem] Oper.semAt_some
theorem Nu (s:List Hl) (i:Nat) (hi:i<s.length):(jG s)[i*4]?=some (.int .i64 s[i].a)∧(jG s)[i*4+1]?=some (.int .i64 s[i].b)∧(jG s)[i*4+2]?=some (.int .i64 s[i].c)∧(jG s)[i*4+3]?=some (.int .i64 s[i].d):=by
 have e:s=s.take i++s[i]::s.drop (i+1):=by rw[←List.drop_eq_getElem_cons hi,List.take_append_drop]
 have hl:(jG (s.take i)).length=i*4:=by rw[Aa,List.length_take,Nat.min_eq_left (by omega)]
 have key:∀j,j<4→(jG s)[i*4+j]?=([Value.int .i64 s[i].a,.int .i64 s[i].b,.int .i64 s[i].c,.int .i64 s[i].d])[j]?:=fun j hj=>by
  conv=>lhs;rw[e]
  unfold jG at hl ⊢
  rw[List.flatMap_append,List.getElem?_append_right (by omega),hl,Nat.add_sub_cancel_left,List.flatMap_cons,List.getElem?_append_left (by simpa using hj)]
 exact⟨key 0 (by omega),key 1 (by omega),key 2 (by omega),key 3 (by omega)⟩
theorem rW {W w:World} {A:aG} {E:Nat} {a:Option Addr} {n c:Nat} {s:List Hl} (hn:s.length=n) (h:Sat W w (sep (aK E 4 a n c (jG s)) A)) (i:Nat) (hi:i<n):
 ∃g x,a=some ⟨g,0,none⟩∧s[i]?=some x∧w.cell? ⟨g,i*4,none⟩=some (.int .i64 x.a)∧w.cell? ⟨g,i*4+1,none⟩=some (.int .i64 x.b)∧w.cell? ⟨g,i*4+2,none⟩=some (.int .i64 x.c)∧w.cell? ⟨g,i*4+3,none⟩=some (.int .i64 x.d):=by
 have hil:i<s.length:=by omega
 obtain⟨g,rfl,hc⟩:=h.kD (fun e=>by have:=congrArg List.length e;rw[Aa,List.length_nil] at this;omega)
 obtain⟨k0,k1,k2,k3⟩:=Nu s i hil
 exact⟨g,s[i],rfl,by rw[List.getElem?_eq_getElem hil],hc _ _ k0,hc _ _ k1,hc _ _ k2,hc _ _ k3⟩
theorem UM {s:List Hl} {k:Nat} {x:Hl} (h:s[k]?=some x):jG (s.take (k+1))=jG (s.take k)++[.int .i64 x.a,.int .i64 x.b,.int .i64 x.c,.int .i64 x.d]:=by
 obtain⟨hk,e⟩:=List.getElem?_eq_some_iff.1 h
 rw[List.take_succ_eq_append_getElem hk,e,pR];rfl
theorem JY:(Tryz.prog.info? 84).map (fun i=>(i.zero,i.size,i.bytes))=some (some (.agg #[.int .i64 0,.int .i64 0,.int .i64 0,.int .i64 0]),4,32):=by kernel_rfl
set_option maxHeartbeats 1000000 in
theorem QA {W w:World} {A:aG} (a:Option Addr) (n c:Nat) (s:List Hl) (hn:s.length=n) (h10:n≤20000) (h:Sat W w (sep (aK 83 4 a n c (jG s)) A)):
 Calls Tryz.prog 18 #[.slice a n c] w fun e w'=>∃a' c',e=.returned (.slice a' n c')∧Sat W w' (sep (aK 84 4 a' n c' (jG s)) (sep (aK 83 4 a n c (jG s)) A)):=by
 have HN:=ah hn
 have H:=ah h
 have hnI:(n:Int)≤20000:=by omega
 clear hn h
 go_enter Tryz.func18,Tryz.ntmps18
 go_wp2
 go_loopw [4,3] (fun kv ov wr=>∃(k:Nat) (a1:Option Addr) (c1:Nat) (vs:List Value),kv=.int .i64 k∧k≤n∧ov=.slice a1 k c1∧Hid (vs=jG (s.take k))∧Sat W wr (sep (aK 84 4 a1 k c1 vs) (sep (aK 83 4 a n c (jG s)) A))) (fun kv _ _=>n-(intOf kv).toNat)
 case atStart=>exact⟨0,none,0,[],rfl,by omega,rfl,ah rfl,H.out.cZ _ _⟩
 case round=>
  obtain⟨k,a1,c1,vs,rfl,hk,rfl,HV,hS⟩:=hrel
  by_cases hlt:k<n
  ·have hltz:(k:Int)<(n:Int):=by omega
   have XC:(k:Int)≤20000:=by omega
   have hd:=hS.drew
   obtain⟨wd,hwd⟩:=aC (wr.drew)
   rw[←hwd] at hd
   obtain⟨g,x,rfl,hx,k0,k1,k2,k3⟩:=rW HN.out hd.p1 k hlt
   obtain⟨xa,xb,xc,xd⟩:=x
   have hB:Sat W (wd.alloc (.cells #[.int .i64 xa,.int .i64 xb,.int .i64 xc,.int .i64 xd] 84)) (sep (aK 84 4 a1 k c1 vs) (sep (aK 83 4 (some ⟨g,0,none⟩) n c (jG s)) A)):=hd.dD _
   have gI:=ah (dS wd [.int .i64 xa,.int .i64 xb,.int .i64 xc,.int .i64 xd] 84)
   have HX:=ah hx
   have kR:=ah hwd
   have HB:=ah hB
   clear hd hwd hB hx hS H
   go_wp2_with fail
   refine aA rfl (fun _=>True) [(0,.p),(1,.p),(2,.p),(3,.p),(4,.p),(5,.t),(6,.p),(7,.p),(8,.p),(9,.p),(10,.t),(11,.p),(12,.p),(13,.p),(14,.p),(15,.t),(16,.p),(17,.p),(18,.p),(19,.p),(20,.t),(21,.p),(22,.e false),(23,.e false),(24,.p)] (by kernel_rfl) ?_
   have hS0:True:=trivial
   rw[←kR.out]
   (repeat ((first|(refine eF (v:=?_) rfl rfl (fun w'=>?_) ?_;rotate_left;(go_simp;with_reducible rfl))|(refine eG (v:=?_) rfl rfl hS0 (fun w' hS=>?_) ?_;rotate_left;((try dsimp only at hS);go_simp;with_reducible rfl))|(refine eH (v:=?_) rfl rfl ?_ ?_;rotate_left;(go_simp;with_reducible rfl))|(refine bD rfl rfl ?_)|(refine bG rfl rfl hS0 ?_)|(refine bH rfl rfl ?_));simp only[Act.put,lsA,lsB,bC]))
   clear k0 k1 k2 k3
   (refine iQ rfl rfl (fun K hK=>?_);go_simp)
   (refine hK _ _ (fun h=>by cases h) ?_;clear hK K;(try simp only[Act.put,lsA,lsB,bC]))
   refine iQ rfl rfl (fun K hK=>?_)
   refine fO (.tmp 11) (.tmp 33) 44 rfl 84 4 32 _ Tryz.underlying44 JY rfl rfl HB.out rfl [.int .i64 xa,.int .i64 xb,.int .i64 xc,.int .i64 xd] rfl (by simp) (by intro b' hb;cases hb;exact gI.out) (by simp[Value.oneCell']) (by omega) (by unfold maxLen;omega) ?_
   intro a2 c2 w4 h5
   have H5:=ah h5
   clear h5 HB gI
   (refine hK _ _ (fun h=>by cases h) ?_;clear hK K;(try simp only[Act.put,lsA,lsB,bC]))
   (repeat ((first|(refine eF (v:=?_) rfl rfl (fun w'=>?_) ?_;rotate_left;(go_simp;with_reducible rfl))|(refine eG (v:=?_) rfl rfl hS0 (fun w' hS=>?_) ?_;rotate_left;((try dsimp only at hS);go_simp;with_reducible rfl))|(refine eH (v:=?_) rfl rfl ?_ ?_;rotate_left;(go_simp;with_reducible rfl))|(refine bD rfl rfl ?_)|(refine bG rfl rfl hS0 ?_)|(refine bH rfl rfl ?_));simp only[Act.put,lsA,lsB,bC]))
   refine bM ?_
   go_wp2
   go_roundw
   case rel=>exact⟨k+1,a2,c2,_,by go_num,by omega,rfl,ah (by rw[UM HX.out,←HV.out]),H5.out⟩
   case measure=>simp[intOf];omega
  ·obtain rfl:k=n:=by omega
   have HS:=ah hS
   clear hS
   go_wp2
   go_ret
   refine⟨a1,c1,rfl,?_⟩
   have e:vs=jG s:=by rw[HV.out,List.take_of_length_le (by rw[HN.out];exact Nat.le_refl _)]
   have h9:=HS.out
   rw[e] at h9
   exact h9
theorem QB (T:Nat) (h1:Tryz.prog.underlying T=some (.struct (Tryz.prog.fieldsOf T))) (h2:Tryz.prog.stoodInHeld T=false) (h3:Tryz.prog.fieldsOf T=Tryz.prog.fieldsOf 83) (w:World) (x y:Hl):
 (Op.equalIn 10000 T (.agg #[.int .i64 x.a,.int .i64 x.b,.int .i64 x.c,.int .i64 x.d]) (.agg #[.int .i64 y.a,.int .i64 y.b,.int .i64 y.c,.int .i64 y.d])).run Tryz.prog w=.ok (decide (x=y)) w:=by
 obtain⟨a,b,c,d⟩:=x
 obtain⟨a',b',c',d'⟩:=y
 have e:=run_equalIn_struct (P:=Tryz.prog) w 9999 T #[.int .i64 a,.int .i64 b,.int .i64 c,.int .i64 d] #[.int .i64 a',.int .i64 b',.int .i64 c',.int .i64 d'] h1 h2
 rw[h3] at e
 have p0:∀a b c d:Int,(part 3 #[.int .i64 a,.int .i64 b,.int .i64 c,.int .i64 d] 0).run Tryz.prog w=.ok (.int .i64 a) w:=fun a b c d=>by kernel_rfl
 have p1:∀a b c d:Int,(part 3 #[.int .i64 a,.int .i64 b,.int .i64 c,.int .i64 d] 1).run Tryz.prog w=.ok (.int .i64 b) w:=fun a b c d=>by kernel_rfl
 have p2:∀a b c d:Int,(part 3 #[.int .i64 a,.int .i64 b,.int .i64 c,.int .i64 d] 2).run Tryz.prog w=.ok (.int .i64 c) w:=fun a b c d=>by kernel_rfl
 have p3:∀a b c d:Int,(part 3 #[.int .i64 a,.int .i64 b,.int .i64 c,.int .i64 d] 3).run Tryz.prog w=.ok (.int .i64 d) w:=fun a b c d=>by kernel_rfl
 have r0:∀a b:Int,(Op.equalIn 9999 3 (.int .i64 a) (.int .i64 b)).run Tryz.prog w=.ok (a==b) w:=fun a b=>run_equalIn_int (P:=Tryz.prog) w 9998 3 .i64 .i64 a b Tryz.underlying3
 rw[show (10000:Nat)=9999+1 from rfl,e]
 clear e
 by_cases z1:a=a'
 ·by_cases z2:b=b'
  ·by_cases z3:c=c'<;>by_cases z4:d=d'<;>simp[Program.fieldsOf,Tryz.underlying83,Op.eqFields,p0,p1,p2,p3,r0,z1,z2,z3,z4]
  ·simp[Program.fieldsOf,Tryz.underlying83,Op.eqFields,p0,p1,r0,z1,z2]
 ·simp[Program.fieldsOf,Tryz.underlying83,Op.eqFields,p0,r0,z1]
theorem JZ (w:World) (x y:Hl):(binOp .neq 84 (.agg #[.int .i64 x.a,.int .i64 x.b,.int .i64 x.c,.int .i64 x.d]) (.agg #[.int .i64 y.a,.int .i64 y.b,.int .i64 y.c,.int .i64 y.d])).run Tryz.prog w=.ok (.bool (!decide (x=y))) w:=by
 rw[run_neq_struct,QB 84 (by kernel_rfl) (by kernel_rfl) (by kernel_rfl)]
 simp
set_option maxHeartbeats 1000000 in
theorem En {W w:World} {A:aG} (a b:Option Addr) (n m c d:Nat) (x y:List Hl) (hn:x.length=n) (hm:y.length=m) (h10:n≤20000) (h11:m≤20000) (h:Sat W w (sep (aK 84 4 a n c (jG x)) (sep (aK 84 4 b m d (jG y)) A))):
 Calls Tryz.prog 17 #[.slice a n c,.slice b m d] w fun e w'=>e=.returned (.bool (decide (x=y)))∧Sat W w' (sep (aK 84 4 a n c (jG x)) (sep (aK 84 4 b m d (jG y)) A)):=by
 obtain⟨rv,fQ⟩:=aC (decide (x=y))
 rw[←fQ]
 have dP:=ah fQ
 have HN:=ah (And.intro hn hm)
 have H:=ah h
 have hnI:(n:Int)≤20000:=by omega
 have hmI:(m:Int)≤20000:=by omega
 clear fQ hn hm h
 by_cases hne:n=m
 ·subst hne
  go_enter Tryz.func17,Tryz.ntmps17
  go_wp2
  go_loopw [5] (fun kv wr=>∃k:Nat,kv=.int .i64 k∧k≤n∧Hid (x.take k=y.take k)∧Sat W wr (sep (aK 84 4 a n c (jG x)) (sep (aK 84 4 b n d (jG y)) A))) (fun kv _=>n-(intOf kv).toNat)
  case atStart=>exact⟨0,rfl,by omega,ah rfl,H.out⟩
  case round=>
   obtain⟨k,rfl,hk,HK,hS⟩:=hrel
   by_cases hlt:k<n
   ·have hltz:(k:Int)<(n:Int):=by omega
    have XC:(k:Int)≤20000:=by omega
    have hd:=hS.drew
    obtain⟨wd,hwd⟩:=aC (wr.drew)
    rw[←hwd] at hd
    obtain⟨g,x1,rfl,hx1,k0,k1,k2,k3⟩:=rW HN.out.1 hd k hlt
    obtain⟨g',x2,rfl,hx2,j0,j1,j2,j3⟩:=rW HN.out.2 hd.p1 k hlt
    obtain⟨bq,hbq⟩:=aC (!decide (x1=x2))
    have hiff:bq=false↔x1=x2:=by
     rw[hbq]
     simp
    have HQ:=ah hiff
    have HX:=ah (And.intro hx1 hx2)
    have kR:=ah hwd
    have HD:=ah hd
    have hq2:=fun w0=>JZ w0 x1 x2
    rw[←hbq] at hq2
    obtain⟨a1,b1,c1,d1⟩:=x1
    obtain⟨a2,b2,c2,d2⟩:=x2
    dsimp only at k0 k1 k2 k3 j0 j1 j2 j3 hq2
    clear hd hwd hx1 hx2 hS H hiff hbq
    go_wp2_with fail
    refine aA rfl (fun _=>True) [(0,.p),(1,.p),(2,.p),(3,.t),(4,.p),(5,.p),(6,.p),(7,.t),(8,.p)] (by kernel_rfl) ?_
    have hS0:True:=trivial
    rw[←kR.out]
    (repeat ((first|(refine eF (v:=?_) rfl rfl (fun w'=>?_) ?_;rotate_left;(go_simp;with_reducible rfl))|(refine eG (v:=?_) rfl rfl hS0 (fun w' hS=>?_) ?_;rotate_left;((try dsimp only at hS);go_simp;with_reducible rfl))|(refine eH (v:=?_) rfl rfl ?_ ?_;rotate_left;(go_simp;with_reducible rfl))|(refine bD rfl rfl ?_)|(refine bG rfl rfl hS0 ?_)|(refine bH rfl rfl ?_));simp only[Act.put,lsA,lsB,bC]))
    refine bM ?_
    clear k0 k1 k2 k3 j0 j1 j2 j3 hq2
    cases bq with
    | false=>
     go_wp2
     go_roundw
     case rel=>
      refine⟨k+1,by go_num,by omega,ah ?_,HD.out⟩
      obtain⟨l1,e1⟩:=List.getElem?_eq_some_iff.1 HX.out.1
      obtain⟨l2,e2⟩:=List.getElem?_eq_some_iff.1 HX.out.2
      rw[List.take_succ_eq_append_getElem l1,List.take_succ_eq_append_getElem l2,HK.out,e1,e2,HQ.out.1 rfl]
     case measure=>simp[intOf];omega
    | true=>
     go_wp2
     go_ret
     refine⟨?_,HD.out⟩
     have hne:x≠y:=fun e=>by
      have h1:=HX.out.1
      rw[e,HX.out.2] at h1
      have:=HQ.out.2 (Option.some.inj h1).symm
      cases this
     rw[dP.out,decide_eq_false hne];rfl
   ·obtain rfl:k=n:=by omega
    have HS:=ah hS
    clear hS
    go_wp2
    go_ret
    refine⟨?_,HS.out⟩
    have he:x=y:=by
     have:=HK.out
     rwa [List.take_of_length_le (by rw[HN.out.1];exact Nat.le_refl _),List.take_of_length_le (by rw[HN.out.2];exact Nat.le_refl _)] at this
    rw[dP.out,decide_eq_true he];rfl
 ·have bz:((n:Int) !=(m:Int))=true:=by simp;omega
  have hne2:x≠y:=fun e=>hne (by rw[←HN.out.1,←HN.out.2,e])
  have Zv:=ah hne2
  clear hne hne2
  go_enter Tryz.func17,Tryz.ntmps17
  go_wp2
  go_ret
  exact⟨by rw[dP.out,decide_eq_false Zv.out];rfl,H.out⟩
end Go.Proofs.YtgicfogmdfdjmaaGreatDoor
