/- Part of a proof. -/
import Derived.Test.YtgicfogmdfdjmaaGreatDoorGTitleOwners22
namespace Go.Proofs.YtgicfogmdfdjmaaGreatDoor
open Go.RowKit PA
theorem KP {W w:World} {A:aH} {I:Mem} (file day:Int) (v:Value) (xs:List Ac) (hD:xs.Pairwise fH) (pG:xs.length<40) (hv:lD I v xs) (hr:aP file day (sortK xs)≠0) (h:Sat W w (sep (kn I) A)):
 Calls Tryz.prog 10 #[.int .i64 file,.int .i64 day,v] w fun e w'=>e=.returned (.tuple #[.slice none 0 0,.int .i64 (aP file day (sortK xs))])∧∃J,Mem.le I J∧Sat W w' (sep (kn J) A):=by
 have hwe:=IW file day v .nilFunc xs hD pG hv hr h
 have h57:=qO file day (sortK xs)
 obtain⟨er,her⟩:=aG (aP file day (sortK xs))
 rw[←her] at h57 hr hwe ⊢
 have hc:er=5∨er=7:=by omega
 have Vt:=ah hwe
 clear hwe her h57 hr hD pG hv h
 rcases hc with rfl|rfl
 ·go_enter Tryz.func10,Tryz.ntmps10
  go_wp2_with fail
  refine Vt.out.mono ?_
  rintro e w2 ⟨rfl,J,hle,h2⟩
  have H2:=ah (And.intro hle h2)
  clear hle h2 Vt
  go_wp2
  exact bodyPost_ret (v:=.tuple #[.slice none 0 0,.int .i64 5]) (by simp[results,Tryz.results10,go_sem]) rfl ⟨rfl,J,H2.out.1,H2.out.2⟩
 ·go_enter Tryz.func10,Tryz.ntmps10
  go_wp2_with fail
  refine Vt.out.mono ?_
  rintro e w2 ⟨rfl,J,hle,h2⟩
  have H2:=ah (And.intro hle h2)
  clear hle h2 Vt
  go_wp2
  exact bodyPost_ret (v:=.tuple #[.slice none 0 0,.int .i64 7]) (by simp[results,Tryz.results10,go_sem]) rfl ⟨rfl,J,H2.out.1,H2.out.2⟩
theorem KQ {W w:World} {A:aH} {I:Mem} (file:Int) (v:Value) (xs:List Ac) (hD:xs.Pairwise fH) (pG:xs.length<40) (hv:lD I v xs) (hr:aP file 131072 (sortK xs)≠0) (h:Sat W w (sep (kn I) A)):
 Calls Tryz.prog 7 #[.int .i64 file,v] w fun e w'=>e=.returned (.tuple #[.slice none 0 0,.int .i64 (aP file 131072 (sortK xs))])∧∃J,Mem.le I J∧Sat W w' (sep (kn J) A):=by
 have hmf:∀(fn:Fn) (first cap:Array Value) (w:World),(Instr.makeFunc fn first cap).run Tryz.prog w=.ok (.func fn first cap) w:=fun _ _ _ _=>rfl
 have h1:=h.alloc (.cells #[.slice none 0 0] 22)
 obtain⟨V,hV⟩:=aG (w.heap.size)
 obtain⟨w1,hw1⟩:=aG (w.alloc (.cells #[.slice none 0 0] 22))
 rw[←hV,←hw1] at h1
 have hwe:=IW file 131072 v (.func (.func 24) #[] #[.pointer (some ⟨V,0,none⟩)]) xs hD pG hv hr h1.p1
 have h57:=qO file 131072 (sortK xs)
 obtain⟨er,her⟩:=aG (aP file 131072 (sortK xs))
 rw[←her] at h57 hr hwe ⊢
 have hc:er=5∨er=7:=by omega
 have Vt:=ah hwe
 have HV:=ah hV
 have HW1:=ah hw1
 clear hwe her h57 hr hD pG hv h h1 hV hw1
 rcases hc with rfl|rfl
 ·go_enter Tryz.func7,Tryz.ntmps7
  go_upto_region 2 with (fail)
  rw[←HV.out,←HW1.out]
  go_wp2_with fail
  refine Vt.out.mono ?_
  rintro e w2 ⟨rfl,J,hle,h2⟩
  have c0:w2.cell? ⟨V,0,none⟩=some (.slice none 0 0):=h2.p1.cell 0
  have H2:=ah (And.intro hle h2.p1.forget)
  clear hle h2 Vt
  go_wp2
  exact bodyPost_ret (v:=.tuple #[.slice none 0 0,.int .i64 5]) (by simp[results,Tryz.results7,go_sem]) rfl ⟨rfl,J,H2.out.1,H2.out.2⟩
 ·go_enter Tryz.func7,Tryz.ntmps7
  go_upto_region 2 with (fail)
  rw[←HV.out,←HW1.out]
  go_wp2_with fail
  refine Vt.out.mono ?_
  rintro e w2 ⟨rfl,J,hle,h2⟩
  have c0:w2.cell? ⟨V,0,none⟩=some (.slice none 0 0):=h2.p1.cell 0
  have H2:=ah (And.intro hle h2.p1.forget)
  clear hle h2 Vt
  go_wp2
  exact bodyPost_ret (v:=.tuple #[.slice none 0 0,.int .i64 7]) (by simp[results,Tryz.results7,go_sem]) rfl ⟨rfl,J,H2.out.1,H2.out.2⟩
end Go.Proofs.YtgicfogmdfdjmaaGreatDoor
namespace Go.Proofs.YtgicfogmdfdjmaaGreatDoor
open Go.RowKit PA
structure TOk (xs:List Ac):Prop where
 key:xs.Pairwise fH
 fine:kN xs
 len:xs.length<40
 sup:∀file day f k,dP file (sortK xs)=some f→(mG file day f xs k).isSome=true→0≤k∧k<(10001:Nat)
def OwnR (file day:Int) (xs:List Ac) (own:List (Int×Rt)):Prop:=(aP file day (sortK xs)=0∧∃f,dP file (sortK xs)=some f∧yE (mG file day f xs) own)∨(aP file day (sortK xs)≠0∧own=[])
theorem vN {file day:Int} {ys:List Ac} (h:aP file day ys=0):∃f,dP file ys=some f:=by
 unfold aP at h
 split at h
 ·cases h
 ·cases hf:dP file ys with
  | none=>rw[hf] at h;cases h
  | some f=>exact⟨f,rfl⟩
def iD (file:Int) (xs:List Ac):List Int:=if aP file 131072 (sortK xs)=0 then vI file ((dP file (sortK xs)).getD Ac.zero) xs else []
def chnNo (file day party:Int) (xs:List Ac):Prop:=(aS (mG file day ((dP file (sortK xs)).getD Ac.zero) xs) party).n=0
instance (file day party:Int) (xs:List Ac):Decidable (chnNo file day party xs):=inferInstanceAs (Decidable (_=_))
theorem IX {I:Mem} {v:Value} {xs:List Ac} (hv:lD I v xs) (h0:0<xs.length):∃(b:Addr) (c:Nat),v=.slice (some b) xs.length c∧Cb (some b) xs.length c∧bT (some b) (bC xs) I:=by
 obtain⟨a,n,c,rfl,hn,hsw,hc⟩:=hv
 subst hn
 have hne:bC xs≠[]:=fun e=>by have:=congrArg List.length e;rw[fC,List.length_nil] at this;omega
 obtain⟨b,o,rfl,-⟩:=fP hc hne
 exact⟨_,c,rfl,hsw,hc⟩
theorem lF {file:Int} {f:Ac} {xs:List Ac} (hf:dP file (sortK xs)=some f):0<xs.length:=by
 rw[←lJ xs]
 unfold dP at hf
 exact List.length_pos_of_mem (List.mem_of_find?_eq_some hf)
theorem KR {W w:World} {A:aH} {I:Mem} (file day:Int) (v:Value) (xs:List Ac) (hx:TOk xs) (hv:lD I v xs) (h:Sat W w (sep (kn I) A)):
 Calls Tryz.prog 10 #[.int .i64 file,.int .i64 day,v] w fun e w'=>∃own a c' J,e=.returned (.tuple #[.slice a own.length c',.int .i64 (aP file day (sortK xs))])∧OwnR file day xs own∧Mem.le I J∧Sat W w' (sep (aN 80 3 a own.length c' (fM own)) (sep (kn J) A)):=by
 by_cases hr:aP file day (sortK xs)=0
 ·obtain⟨f,hf⟩:=vN hr
  obtain⟨b,c,rfl,hsw,hc⟩:=IX hv (lF hf)
  refine (xq file day f b _ c xs rfl (lF hf) hx.len hx.key hx.fine hsw hc hf hr (fun k hk=>hx.sup file day f k hf hk) h).mono ?_
  rintro e w' ⟨own,a,c',J,rfl,h1,h2,h3⟩
  exact⟨own,a,c',J,by rw[hr],.inl ⟨hr,f,hf,h1⟩,h2,h3⟩
 ·refine (KP file day v xs hx.key hx.len hv hr h).mono ?_
  rintro e w' ⟨rfl,J,h1,h2⟩
  exact⟨[],none,0,J,rfl,.inr ⟨hr,rfl⟩,h1,h2.dD 80 3⟩
theorem KT {W w:World} {A:aH} {I:Mem} (file:Int) (v:Value) (xs:List Ac) (hx:TOk xs) (hv:lD I v xs) (h:Sat W w (sep (kn I) A)):
 Calls Tryz.prog 7 #[.int .i64 file,v] w fun e w'=>∃a c' J,e=.returned (.tuple #[.slice a (iD file xs).length c',.int .i64 (aP file 131072 (sortK xs))])∧Mem.le I J∧Sat W w' (sep (aN 3 1 a (iD file xs).length c' ((iD file xs).map PA.iv)) (sep (kn J) A)):=by
 by_cases hr:aP file 131072 (sortK xs)=0
 ·obtain⟨f,hf⟩:=vN hr
  obtain⟨b,c,rfl,hsw,hc⟩:=IX hv (lF hf)
  have e:iD file xs=vI file f xs:=by unfold iD;rw[if_pos hr,hf];rfl
  rw[e,hr]
  exact D8 file f b _ c xs rfl (lF hf) hx.len hx.key hx.fine hsw hc hf hr h
 ·have e:iD file xs=[]:=by unfold iD;rw[if_neg hr]
  rw[e]
  refine (KQ file v xs hx.key hx.len hv hr h).mono ?_
  rintro e w' ⟨rfl,J,h1,h2⟩
  exact⟨none,0,J,rfl,h1,h2.dD 3 1⟩
end Go.Proofs.YtgicfogmdfdjmaaGreatDoor
namespace PA
open Go Go.Proofs.YtgicfogmdfdjmaaGreatDoor
structure TA (x:Ac):Prop where
 tr:x.k=16→okR x.sh=true∧0<x.sn∧(1≤x.p∧x.p≤10)∧(1≤x.q∧x.q≤10)∧x.p≠x.q
 fi:x.k=0→(1≤x.p∧x.p≤10)∧0≤x.f∧x.f≤4095
 d1:0≤x.d
 d2:x.d≤131072
theorem Ed {n d:Int} (h:EL n d):okR ⟨n,d⟩=true∧0<n:=by
 rcases h with ⟨rfl,rfl⟩|⟨rfl,rfl⟩|⟨rfl,rfl⟩|⟨rfl,rfl⟩<;>exact⟨by decide,by decide⟩
theorem RH {I:Mem} {N:Nat} (hN:N≤100) {z:Ac} {x:Pa} (hA:nT I z x) (h:DJ N x):TA z∧35600≤z.d∧z.d≤38000∧(z.k=0→z.f=5*(N:Int))∧∃j:Nat,z.f=5*(j:Int):=by
 obtain⟨y,d,n,hy,h1,h2,rfl⟩:=h
 have e1:z.k=y.k:=hA.k
 have e2:z.f=y.f:=hA.f
 have e3:z.p=y.p:=hA.p
 have e4:z.q=y.q:=hA.q
 have e5:z.sn=y.sn:=hA.sn
 have e6:z.sd=y.sd:=hA.sd
 have e7:z.d=d:=hA.d
 have hd1:0≤z.d:=by rw[e7];omega
 have hd2:z.d≤131072:=by rw[e7];omega
 rcases hy with hy|hy
 ·obtain⟨o,p,q,td,tc,ea,rfl,ho,hp,hq,hT,hE⟩:=hy
  have k0:z.k=0:=e1
  have f0:z.f=5*(N:Int):=e2
  have p0:z.p=p:=e3
  refine⟨⟨(fun h=>by rw[k0] at h;cases h),fun _=>⟨by rw[p0];omega,by omega,by omega⟩,hd1,hd2⟩,by omega,by omega,fun _=>f0,N,f0⟩
 ·have hne:z.k≠0:=by
   rw[e1]
   cases hy<;>(simp only;first|omega|decide)
  have hfj:∃j:Nat,z.f=5*(j:Int):=by
   rw[e2]
   cases hy<;>(first|(rename_i hF;obtain⟨j,-,e⟩:=hF;exact⟨j,e⟩)|exact⟨0,rfl⟩|skip)
   all_goals (simp only;first|exact⟨0,rfl⟩|(rename_i a _ ;obtain⟨j,-,e⟩:=a;exact⟨j,e⟩)|skip)
   all_goals (first|(rename_i a _ _;obtain⟨j,-,e⟩:=a;exact⟨j,e⟩)|(rename_i a _ _ _;obtain⟨j,-,e⟩:=a;exact⟨j,e⟩)|(rename_i a _ _ _ _;obtain⟨j,-,e⟩:=a;exact⟨j,e⟩)|(rename_i a _ _ _ _ _;obtain⟨j,-,e⟩:=a;exact⟨j,e⟩)|(rename_i a _ _ _ _ _ _;obtain⟨j,-,e⟩:=a;exact⟨j,e⟩))
  refine⟨⟨fun h=>?_,fun h=>absurd h hne,hd1,hd2⟩,by omega,by omega,fun h=>absurd h hne,hfj⟩
  unfold Ac.sh
  rw[e3,e4,e5,e6]
  rw[e1] at h
  cases hy<;>simp only at h
  all_goals first|omega|skip
  rename_i hp1 hp2 hq1 hq2 hs
  exact⟨(Ed hs).1,(Ed hs).2,⟨by simp only;omega,by simp only;omega⟩,⟨by simp only;omega,by simp only;omega⟩,by simp only;omega⟩
structure TL (xs:List Ac):Prop where
 all:∀x∈xs,TA x
 key:xs.Pairwise fH
 Wu:(jA xs).Nodup
theorem vO (xs ys:List Ac):jA (xs++ys)=jA xs++jA ys:=by unfold jA;rw[List.filter_append,List.map_append]
theorem FI {I:Mem} {zl:List Ac} {ps:List Pa} (h1:dU (nT I) zl ps) (h2:Made ps) (hl:zl.length≤100) (i:Nat) (hi:i<zl.length):
 TA zl[i]∧35600≤zl[i].d∧zl[i].d≤38000∧(zl[i].k=0→zl[i].f=5*(qo (ps.take i):Int))∧(∃j:Nat,zl[i].f=5*(j:Int))∧zl[i].n=4*(i:Int):=by
 have hlen:=dU.length h1
 have hp:i<ps.length:=by omega
 have hA:=h1.get i hi hp
 obtain⟨hg,hn,-⟩:=h2 i hp
 have hN:qo (ps.take i)≤100:=by have:=y8 (ps.take i);rw[List.length_take] at this;omega
 obtain⟨a1,a2,a3,a4,a5⟩:=RH hN hA hg
 exact⟨a1,a2,a3,a4,a5,by rw[hA.n,hn]⟩
theorem Ee {I:Mem}:∀{zl:List Ac} {ps:List Pa},dU (nT I) zl ps→Made ps→zl.length≤100→jA zl=(List.range (qo ps)).map fun j:Nat=>5*(j:Int):=by
 intro zl ps h1 h2 hl
 have key:∀k,k≤zl.length→jA (zl.take k)=(List.range (qo (ps.take k))).map fun j:Nat=>5*(j:Int):=by
  intro k
  induction k with
  | zero=>intro _;simp[jA,qo]
  | succ k ih=>
   intro hk
   have hlen:=dU.length h1
   have hi:k<zl.length:=by omega
   have hp:k<ps.length:=by omega
   rw[List.take_add_one,List.getElem?_eq_getElem hi,List.take_add_one,List.getElem?_eq_getElem hp]
   show jA (zl.take k++[zl[k]])=(List.range (qo (ps.take k++[ps[k]]))).map _
   rw[KO,DN,ih (by omega)]
   have hg:=FI h1 h2 hl k hi
   have hA:=h1.get k hi hp
   by_cases h0:zl[k].k=0
   ·rw[if_pos h0,if_pos (by rw[←hA.k];exact h0),List.range_succ,List.map_append,hg.2.2.2.1 h0];rfl
   ·rw[if_neg h0,if_neg (by rw[←hA.k];exact h0)];simp
 have hlen:=dU.length h1
 have:=key zl.length (Nat.le_refl _)
 rw[List.take_length] at this
 rw[this,hlen,List.take_length]
theorem Vu (n:Nat):((List.range n).map fun j:Nat=>5*(j:Int)).Nodup:=by
 refine List.Pairwise.map _ (fun a b h=>?_) List.nodup_range
 intro e
 exact h (by omega)
theorem KU {I:Mem} {zl:List Ac} (h:o7 I zl) (hl:zl.length≤14):TL zl:=by
 obtain⟨ps,h1,h2⟩:=h
 have hg:=fun i hi=>FI h1 h2 (by omega) i hi
 refine⟨fun x hx=>?_,?_,?_⟩
 ·obtain⟨i,hi,rfl⟩:=List.mem_iff_getElem.1 hx
  exact (hg i hi).1
 ·rw[List.pairwise_iff_getElem]
  intro i j hi hj hij
  right
  rw[(hg i hi).2.2.2.2.2,(hg j hj).2.2.2.2.2]
  omega
 ·rw[Ee h1 h2 (by omega)]
  exact Vu _
theorem KW {l:List Int} {x:Ac} (h:x∈iG l):TA x∧x.d<135:=by
 rcases AO h with rfl|rfl|h
 ·exact⟨⟨fun h=>absurd h (by decide),fun _=>⟨⟨by decide,by decide⟩,by decide,by decide⟩,by decide,by decide⟩,by decide⟩
 ·exact⟨⟨fun h=>absurd h (by decide),fun _=>⟨⟨by decide,by decide⟩,by decide,by decide⟩,by decide,by decide⟩,by decide⟩
 ·have h1:=h.d1
  have h2:=h.d2
  refine⟨⟨fun hk=>?_,fun hk=>?_,by omega,by omega⟩,by omega⟩
  ·obtain⟨q1,q2,q3,q4,q5⟩:=h.tr hk
   exact⟨q1,q2,by omega,by omega,q5⟩
  ·rcases h.kd with e|e|e<;>omega
theorem xG (l:List Int):jA (iG l)=[2,7]:=by
 unfold iG
 rw[vO]
 have e:jA ((List.range (Aw l)).map (Fv l))=[]:=by
  rw[List.eq_nil_iff_forall_not_mem]
  intro f hf
  obtain⟨x,hx,hk,-⟩:=OJ.1 hf
  have:U8 x:=by
   rcases AO (show x∈iG l from List.mem_append_right _ hx) with e|e|e
   ·obtain⟨i,-,rfl⟩:=List.mem_map.1 hx
    exact (xA l i).1
   ·obtain⟨i,-,rfl⟩:=List.mem_map.1 hx
    exact (xA l i).1
   ·exact e
  rcases this.kd with h|h|h<;>omega
 rw[e]
 rfl
theorem RI (l:List Int):TL (iG l):=⟨fun _ hx=>(KW hx).1,IL l,by rw[xG];decide⟩
theorem Nl {I:Mem} {zl:List Ac} (l:List Int) (h:o7 I zl) (hl:zl.length≤8):TL (zl++iG l):=by
 have hT:=KU h (by omega)
 obtain⟨ps,h1,h2⟩:=h
 have hg:=fun i hi=>FI h1 h2 (by omega) i hi
 refine⟨fun x hx=>?_,?_,?_⟩
 ·rcases List.mem_append.1 hx with h|h
  ·exact hT.all x h
  ·exact (KW h).1
 ·rw[List.pairwise_append]
  refine⟨hT.key,IL l,fun x hx y hy=>?_⟩
  obtain⟨i,hi,rfl⟩:=List.mem_iff_getElem.1 hx
  left
  have:=(KW hy).2
  have:=(hg i hi).2.1
  omega
 ·rw[vO,List.nodup_append]
  refine⟨hT.Wu,by rw[xG];decide,fun a ha b hb e=>?_⟩
  rw[Ee h1 h2 (by omega)] at ha
  obtain⟨j,-,rfl⟩:=List.mem_map.1 ha
  rw[xG] at hb
  simp only[List.mem_cons,List.not_mem_nil,or_false] at hb
  omega
theorem TL.ok {xs:List Ac} (h:TL xs) (hl:xs.length<40):TOk xs:=by
 refine⟨h.key,fun x hx hk=>⟨((h.all x hx).tr hk).1,by have:=((h.all x hx).tr hk).2.1;omega⟩,hl,fun file day f k hf hk=>?_⟩
 have hmem:f∈xs:=(iR xs).subset (List.mem_of_find?_eq_some hf)
 have hk0:f.k=0:=by
  have:=List.find?_some hf
  unfold eG at this
  simp only[Bool.and_eq_true,decide_eq_true_eq] at this
  exact this.1
 have hp:=((h.all f hmem).fi hk0).1
 exact rP file f.d day _ (sortK xs) 0 (dI f.p) () (qL.first ⟨by omega,by omega⟩) (fun x hx hk=>by
  obtain⟨-,-,q1,q2,-⟩:=(h.all x ((iR xs).subset hx)).tr hk
  exact⟨⟨by omega,by omega⟩,by omega,by omega⟩) k hk
end PA
namespace PA
open Go Go.Proofs.YtgicfogmdfdjmaaGreatDoor
def ownB (file:Int) (x:Ac):Bool:=decide (x.f=file)&&(decide (x.k=0)||decide (x.k=16)||decide (x.k=17))
section
variable {xs:List Ac} {file:Int} (hk:xs.Pairwise fH)
include hk
end
theorem TL.own {xs:List Ac} (h:TL xs) (file:Int):TL (xs.filter (ownB file)):=
 ⟨fun x hx=>h.all x (List.mem_filter.1 hx).1,h.key.filter _,by
  have:(jA (xs.filter (ownB file))).Sublist (jA xs):=by
   unfold jA
   exact (List.Sublist.filter _ List.filter_sublist).map _
  exact h.Wu.sublist this⟩
end PA
namespace Go.Proofs.YtgicfogmdfdjmaaGreatDoor
open Go.RowKit PA
def Lst (L:Nat) (J:Mem) (i:Nat) (v:Value) (xs:List Ac):Prop:=(∀w',Ext J w'→w'.cell? ⟨L,i,none⟩=some v)∧lD J v xs∧TL xs∧xs.length<40
theorem Lst.mono {L:Nat} {I J:Mem} {i:Nat} {v:Value} {xs:List Ac} (hl:Mem.le I J) (h:Lst L I i v xs):Lst L J i v xs:=
 ⟨fun w' he=>h.1 w' (fun b o hb=>he b o (hl b o hb)),h.2.1.mono hl,h.2.2⟩
section
variable {W w:World} {A:aH} {g N:Nat} {f:Nat→Ac} {tl:List Value}
end
end Go.Proofs.YtgicfogmdfdjmaaGreatDoor
