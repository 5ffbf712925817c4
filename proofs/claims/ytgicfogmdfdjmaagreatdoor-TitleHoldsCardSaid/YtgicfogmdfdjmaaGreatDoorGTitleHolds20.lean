/- Part of a proof. -/
import Derived.Test.YtgicfogmdfdjmaaGreatDoorGTitleHolds19
namespace Go.Proofs.YtgicfogmdfdjmaaGreatDoor
open Go.RowKit PA
theorem Hg {W w:World} {A:aG} {I:Mem} (file day:Int) (v:Value) (xs:List Ac) (hD:xs.Pairwise fD) (lM:xs.length<40) (hv:lW I v xs) (hr:aP file day (sortK xs)≠0) (h:Sat W w (sep (kn I) A)):
 Calls Tryz.prog 15 #[.int .i64 file,.int .i64 day,v] w fun e w'=>e=.returned (.tuple #[.slice none 0 0,.int .i64 (aP file day (sortK xs))])∧∃J,Mem.le I J∧Sat W w' (sep (kn J) A):=by
 have hmf:∀(fn:Fn) (first cap:Array Value) (w:World),(Instr.makeFunc fn first cap).run Tryz.prog w=.ok (.func fn first cap) w:=fun _ _ _ _=>rfl
 obtain⟨D,hD'⟩:=aC (w.heap.size)
 obtain⟨w0,hw0⟩:=aC (w.alloc (.cells #[.int .i64 day] 3))
 have h0':=h.alloc (.cells #[.int .i64 day] 3)
 rw[←hw0,←hD'] at h0'
 obtain⟨V,hV⟩:=aC (w0.heap.size)
 obtain⟨w1,hw1⟩:=aC (w0.alloc (.cells #[.slice none 0 0] 41))
 have h1:=h0'.alloc (.cells #[.slice none 0 0] 41)
 rw[←hV,←hw1] at h1
 have c1:w1.cell? ⟨D,0,none⟩=some (.int .i64 day):=h1.p1.cell 0
 have hwe:=KC file day v (.func (.func 27) #[] #[.pointer (some ⟨D,0,none⟩),.pointer (some ⟨V,0,none⟩)]) xs hD lM hv hr h1.p2
 have h57:=rX file day (sortK xs)
 obtain⟨er,her⟩:=aC (aP file day (sortK xs))
 rw[←her] at h57 hr hwe ⊢
 have hc:er=5∨er=7:=by omega
 have X6:=ah hwe
 have HV:=ah (And.intro hD' (And.intro hw0 (And.intro hV hw1)))
 clear hwe her h57 hr hD lM hv h h1 hV hw1 hD' hw0 h0'
 rcases hc with rfl|rfl
 ·go_enter Tryz.func15,Tryz.ntmps15
  go_upto_region 1 with (fail)
  rw[←HV.out.1,←HV.out.2.1]
  go_upto_region 2 with (fail)
  rw[←HV.out.2.2.1,←HV.out.2.2.2]
  go_wp2_with fail
  refine X6.out.mono ?_
  rintro e w2 ⟨rfl,J,hle,h2⟩
  have c0:w2.cell? ⟨V,0,none⟩=some (.slice none 0 0):=h2.p1.cell 0
  have H2:=ah (And.intro hle (show Sat W w2 (sep (kn J) _) from h2.p1.forget.p1.forget))
  clear hle h2 X6 c1
  go_wp2
  exact bodyPost_ret (v:=.tuple #[.slice none 0 0,.int .i64 5]) (by simp[results,Tryz.results15,go_sem]) rfl ⟨rfl,J,H2.out.1,H2.out.2⟩
 ·go_enter Tryz.func15,Tryz.ntmps15
  go_upto_region 1 with (fail)
  rw[←HV.out.1,←HV.out.2.1]
  go_upto_region 2 with (fail)
  rw[←HV.out.2.2.1,←HV.out.2.2.2]
  go_wp2_with fail
  refine X6.out.mono ?_
  rintro e w2 ⟨rfl,J,hle,h2⟩
  have c0:w2.cell? ⟨V,0,none⟩=some (.slice none 0 0):=h2.p1.cell 0
  have H2:=ah (And.intro hle (show Sat W w2 (sep (kn J) _) from h2.p1.forget.p1.forget))
  clear hle h2 X6 c1
  go_wp2
  exact bodyPost_ret (v:=.tuple #[.slice none 0 0,.int .i64 7]) (by simp[results,Tryz.results15,go_sem]) rfl ⟨rfl,J,H2.out.1,H2.out.2⟩
theorem QN {W w:World} {A:aG} {I:Mem} (file day party:Int) (v:Value) (xs:List Ac) (hD:xs.Pairwise fD) (lM:xs.length<40) (hv:lW I v xs) (hr:aP file day (sortK xs)≠0) (h:Sat W w (sep (kn I) A)):
 Calls Tryz.prog 19 #[.int .i64 file,.int .i64 day,.int .i64 party,v] w fun e w'=>e=.returned (.tuple #[.slice none 0 0,.int .i64 (aP file day (sortK xs))])∧∃J,Mem.le I J∧Sat W w' (sep (kn J) A):=by
 have hmf:∀(fn:Fn) (first cap:Array Value) (w:World),(Instr.makeFunc fn first cap).run Tryz.prog w=.ok (.func fn first cap) w:=fun _ _ _ _=>rfl
 have h1:=h.alloc (.cells #[.slice none 0 0] 85)
 obtain⟨V,hV⟩:=aC (w.heap.size)
 obtain⟨w1,hw1⟩:=aC (w.alloc (.cells #[.slice none 0 0] 85))
 rw[←hV,←hw1] at h1
 have hwe:=KC file day v (.func (.func 28) #[] #[.pointer (some ⟨V,0,none⟩)]) xs hD lM hv hr h1.p1
 have h57:=rX file day (sortK xs)
 obtain⟨er,her⟩:=aC (aP file day (sortK xs))
 rw[←her] at h57 hr hwe ⊢
 have hc:er=5∨er=7:=by omega
 have X6:=ah hwe
 have HV:=ah hV
 have HW1:=ah hw1
 clear hwe her h57 hr hD lM hv h h1 hV hw1
 rcases hc with rfl|rfl
 ·go_enter Tryz.func19,Tryz.ntmps19
  go_upto_region 2 with (fail)
  rw[←HV.out,←HW1.out]
  go_wp2_with fail
  refine X6.out.mono ?_
  rintro e w2 ⟨rfl,J,hle,h2⟩
  have H2:=ah (And.intro hle h2.p1.forget)
  clear hle h2 X6
  go_wp2
  exact bodyPost_ret (v:=.tuple #[.slice none 0 0,.int .i64 5]) (by simp[results,Tryz.results19,go_sem]) rfl ⟨rfl,J,H2.out.1,H2.out.2⟩
 ·go_enter Tryz.func19,Tryz.ntmps19
  go_upto_region 2 with (fail)
  rw[←HV.out,←HW1.out]
  go_wp2_with fail
  refine X6.out.mono ?_
  rintro e w2 ⟨rfl,J,hle,h2⟩
  have H2:=ah (And.intro hle h2.p1.forget)
  clear hle h2 X6
  go_wp2
  exact bodyPost_ret (v:=.tuple #[.slice none 0 0,.int .i64 7]) (by simp[results,Tryz.results19,go_sem]) rfl ⟨rfl,J,H2.out.1,H2.out.2⟩
set_option maxHeartbeats 8000000 in
theorem NK {W w:World} {A:aG} {I:Mem} (file day party:Int) (f:Ac) (b:Addr) (n c:Nat) (xs:List Ac) (hn:xs.length=n) (h0:0<n) (lM:n<40) (hD:xs.Pairwise fD) (jL:je xs) (hw:zB (some b) n c) (hc:bP (some b) (bI xs) I)
 (hf:dF file (sortK xs)=some f) (hr:aP file day (sortK xs)=0) (hp:(aQ (kH file day f xs) party).n=0) (h:Sat W w (sep (kn I) A)):
 Calls Tryz.prog 19 #[.int .i64 file,.int .i64 day,.int .i64 party,.slice (some b) n c] w fun e w'=>e=.returned (.tuple #[.slice none 0 0,.int .i64 7])∧∃J,Mem.le I J∧Sat W w' (sep (kn J) A):=by
 have hmf:∀(fn:Fn) (first cap:Array Value) (w:World),(Instr.makeFunc fn first cap).run Tryz.prog w=.ok (.func fn first cap) w:=fun _ _ _ _=>rfl
 have eg:∀args w,(callFunc 28 args).run Tryz.prog w=.ok (.enter 28 args) w:=enters_of Tryz.func28 (by kernel_rfl) rfl
 obtain⟨V,hV⟩:=aC (w.heap.size)
 obtain⟨w1,hw1⟩:=aC (w.alloc (.cells #[.slice none 0 0] 85))
 have h1:Sat W w1 (sep (capD V []) (sep (kn I) A)):=by
  rw[hw1,hV]
  exact Ad (a:=none) (c:=0) ((h.cZ 87 20).alloc (.cells #[.slice none 0 0] 85))
 have hwk:=ah (nU (fun s=>capD V s) DW [] 28 #[.pointer (some ⟨V,0,none⟩)] eg (fun k s=>s.length≤k) (Nat.zero_le _) (fun k s x dn hk=>Ph hk) (fun k s hk=>by omega)
  (fun s i x dn pt w B q1 q2 q3=>y8 V s i x dn pt q1 q2 q3) file day f b n c xs hn h0 lM hD jL hw hc hf hr h1.p1)
 have hRl:=yt file day f xs
 obtain⟨R,hR⟩:=aC (y9 file day f xs)
 obtain⟨S,hS⟩:=aC (kH file day f xs)
 have eS:(walkT file f.d day DW 0 (sortK xs) (bW f.p) []).1=S:=by rw[hS];exact oW _ _ _ _ _ _ _ _ _ _ _
 rw[eS,show (walkT file f.d day DW 0 (sortK xs) (bW f.p) []).2=R from hR.symm] at hwk
 rw[←hS] at hp
 rw[←hR] at hRl
 have HRL:Hid (R.length<40):=ah (by omega)
 have HV:=ah hV
 have HW1:=ah hw1
 clear hn h0 lM hD jL hw hc hf hr h h1 hV hw1 hR hS eg eS hRl
 go_enter Tryz.func19,Tryz.ntmps19
 go_upto_region 2 with (fail)
 rw[←HV.out,←HW1.out]
 go_wp2_with fail
 refine hwk.out.mono ?_
 rintro e w2 ⟨p,J,rfl,hle,h2⟩
 have gQ:=ah hle
 have JI:=ah (mW party (show Sat W w2 (sep (l9 p f.p S) (sep (kn J) (sep (capD V R) A))) from h2))
 obtain⟨⟨sn,sd⟩,hsh⟩:∃r,r=aQ S party:=⟨_,rfl⟩
 rw[←hsh] at JI hp
 dsimp only at hp
 have hpz:(sn==0)=true:=by simpa using hp
 have jC:∀(u v:Int) (w:World),(Instr.field 57 (.agg #[.int .i64 u,.int .i64 v]) 0).run Tryz.prog w=.ok (.int .i64 u) w:=fun u v w=>by kernel_rfl
 clear hwk hle h2 hsh hp
 go_wp2_with fail
 refine JI.out.mono ?_
 rintro e w3 ⟨rfl,h3⟩
 have H3:=ah (show Sat W w3 (sep (kn J) A) from h3.drop.p1.drop)
 clear h3 JI
 go_wp2
 exact bodyPost_ret (v:=.tuple #[.slice none 0 0,.int .i64 7]) (by simp[results,Tryz.results19,go_sem]) rfl ⟨rfl,J,gQ.out,H3.out⟩
end Go.Proofs.YtgicfogmdfdjmaaGreatDoor
namespace Go.Proofs.YtgicfogmdfdjmaaGreatDoor
open Go.RowKit PA
structure TOk (xs:List Ac):Prop where
 key:xs.Pairwise fD
 fine:je xs
 len:xs.length<40
 sup:∀file day f k,dF file (sortK xs)=some f→(kH file day f xs k).isSome=true→0≤k∧k<(10001:Nat)
theorem wJ {file day:Int} {ys:List Ac} (h:aP file day ys=0):∃f,dF file ys=some f:=by
 unfold aP at h
 split at h
 ·cases h
 ·cases hf:dF file ys with
  | none=>rw[hf] at h;cases h
  | some f=>exact⟨f,rfl⟩
def oG (file day:Int) (xs:List Ac):List Hl:=if aP file day (sortK xs)=0 then Ko file day ((dF file (sortK xs)).getD Ac.zero) xs else []
def uq (file day party:Int) (xs:List Ac):Prop:=(aQ (kH file day ((dF file (sortK xs)).getD Ac.zero) xs) party).n=0
instance (file day party:Int) (xs:List Ac):Decidable (uq file day party xs):=inferInstanceAs (Decidable (_=_))
def tZ (file day party:Int) (xs:List Ac):Int:=if aP file day (sortK xs)≠0 then aP file day (sortK xs) else if uq file day party xs then 7 else 0
def nC (file day party:Int) (xs:List Ac):List Int:=if aP file day (sortK xs)≠0 then [] else if uq file day party xs then [] else pU file day party ((dF file (sortK xs)).getD Ac.zero) xs
theorem KD {I:Mem} {v:Value} {xs:List Ac} (hv:lW I v xs) (h0:0<xs.length):∃(b:Addr) (c:Nat),v=.slice (some b) xs.length c∧zB (some b) xs.length c∧bP (some b) (bI xs) I:=by
 obtain⟨a,n,c,rfl,hn,hsw,hc⟩:=hv
 subst hn
 have hne:bI xs≠[]:=fun e=>by have:=congrArg List.length e;rw[fF,List.length_nil] at this;omega
 obtain⟨b,o,rfl,-⟩:=fV hc hne
 exact⟨_,c,rfl,hsw,hc⟩
theorem jW {file:Int} {f:Ac} {xs:List Ac} (hf:dF file (sortK xs)=some f):0<xs.length:=by
 rw[←iL xs]
 unfold dF at hf
 exact List.length_pos_of_mem (List.mem_of_find?_eq_some hf)
theorem Ho {W w:World} {A:aG} {I:Mem} (file day:Int) (v:Value) (xs:List Ac) (hx:TOk xs) (hv:lW I v xs) (h:Sat W w (sep (kn I) A)):
 Calls Tryz.prog 15 #[.int .i64 file,.int .i64 day,v] w fun e w'=>∃a c' J,e=.returned (.tuple #[.slice a (oG file day xs).length c',.int .i64 (aP file day (sortK xs))])∧Mem.le I J∧Sat W w' (sep (aK 83 4 a (oG file day xs).length c' (jG (oG file day xs))) (sep (kn J) A)):=by
 by_cases hr:aP file day (sortK xs)=0
 ·obtain⟨f,hf⟩:=wJ hr
  obtain⟨b,c,rfl,hsw,hc⟩:=KD hv (jW hf)
  have e:oG file day xs=Ko file day f xs:=by unfold oG;rw[if_pos hr,hf];rfl
  rw[e,hr]
  exact Kq file day f b _ c xs rfl (jW hf) hx.len hx.key hx.fine hsw hc hf hr h
 ·have e:oG file day xs=[]:=by unfold oG;rw[if_neg hr]
  rw[e]
  refine (Hg file day v xs hx.key hx.len hv hr h).mono ?_
  rintro e w' ⟨rfl,J,h1,h2⟩
  exact⟨none,0,J,rfl,h1,h2.cZ 83 4⟩
theorem QO {W w:World} {A:aG} {I:Mem} (file day party:Int) (v:Value) (xs:List Ac) (hx:TOk xs) (hv:lW I v xs) (h:Sat W w (sep (kn I) A)):
 Calls Tryz.prog 19 #[.int .i64 file,.int .i64 day,.int .i64 party,v] w fun e w'=>∃a c' J,e=.returned (.tuple #[.slice a (nC file day party xs).length c',.int .i64 (tZ file day party xs)])∧Mem.le I J∧Sat W w' (sep (aK 3 1 a (nC file day party xs).length c' ((nC file day party xs).map PA.iv)) (sep (kn J) A)):=by
 by_cases hr:aP file day (sortK xs)=0
 ·obtain⟨f,hf⟩:=wJ hr
  obtain⟨b,c,rfl,hsw,hc⟩:=KD hv (jW hf)
  have hg:(dF file (sortK xs)).getD Ac.zero=f:=by rw[hf];rfl
  by_cases hp:uq file day party xs
  ·have e1:nC file day party xs=[]:=by unfold nC;rw[if_neg (by simpa using hr),if_pos hp]
   have e2:tZ file day party xs=7:=by unfold tZ;rw[if_neg (by simpa using hr),if_pos hp]
   rw[e1,e2]
   unfold uq at hp
   rw[hg] at hp
   refine (NK file day party f b _ c xs rfl (jW hf) hx.len hx.key hx.fine hsw hc hf hr hp h).mono ?_
   rintro e w' ⟨rfl,J,h1,h2⟩
   exact⟨none,0,J,rfl,h1,h2.cZ 3 1⟩
  ·have e1:nC file day party xs=pU file day party f xs:=by unfold nC;rw[if_neg (by simpa using hr),if_neg hp,hg]
   have e2:tZ file day party xs=0:=by unfold tZ;rw[if_neg (by simpa using hr),if_neg hp]
   rw[e1,e2]
   unfold uq at hp
   rw[hg] at hp
   exact UW file day party f b _ c xs rfl (jW hf) hx.len hx.key hx.fine hsw hc hf hr hp h
 ·have e1:nC file day party xs=[]:=by unfold nC;rw[if_pos hr]
  have e2:tZ file day party xs=aP file day (sortK xs):=by unfold tZ;rw[if_pos hr]
  rw[e1,e2]
  refine (QN file day party v xs hx.key hx.len hv hr h).mono ?_
  rintro e w' ⟨rfl,J,h1,h2⟩
  exact⟨none,0,J,rfl,h1,h2.cZ 3 1⟩
end Go.Proofs.YtgicfogmdfdjmaaGreatDoor
namespace PA
open Go Go.Proofs.YtgicfogmdfdjmaaGreatDoor
structure TA (x:Ac):Prop where
 tr:x.k=16→okR x.sh=true∧0<x.sn∧(1≤x.p∧x.p≤10)∧(1≤x.q∧x.q≤10)∧x.p≠x.q
 fi:x.k=0→(1≤x.p∧x.p≤10)∧0≤x.f∧x.f≤4095
 d1:0≤x.d
 d2:x.d≤131072
theorem Fv {n d:Int} (h:Gm n d):okR ⟨n,d⟩=true∧0<n:=by
 rcases h with ⟨rfl,rfl⟩|⟨rfl,rfl⟩|⟨rfl,rfl⟩|⟨rfl,rfl⟩<;>exact⟨by decide,by decide⟩
theorem U5 {I:Mem} {N:Nat} (hN:N≤100) {z:Ac} {x:Pa} (hA:oM I z x) (h:EK N x):TA z∧35600≤z.d∧z.d≤38000∧(z.k=0→z.f=5*(N:Int))∧∃j:Nat,z.f=5*(j:Int):=by
 obtain⟨y,d,n,hy,h1,h2,rfl⟩:=h
 have e1:z.k=y.k:=hA.k
 have e2:z.f=y.f:=hA.f
 have e3:z.p=y.p:=hA.p
 have e4:z.q=y.q:=hA.q
 have e5:z.sn=y.sn:=hA.sn
 have e6:z.sd=y.sd:=hA.sd
 have e7:z.d=d:=hA.d
 have hd1:0≤z.d:=by rw[e7];omega
 have hd2:z.d≤131072:=by rw[e7];omega
 rcases hy with hy|hy
 ·obtain⟨o,p,q,td,tc,ea,rfl,ho,hp,hq,hT,hE⟩:=hy
  have k0:z.k=0:=e1
  have f0:z.f=5*(N:Int):=e2
  have p0:z.p=p:=e3
  refine⟨⟨(fun h=>by rw[k0] at h;cases h),fun _=>⟨by rw[p0];omega,by omega,by omega⟩,hd1,hd2⟩,by omega,by omega,fun _=>f0,N,f0⟩
 ·have hne:z.k≠0:=by
   rw[e1]
   cases hy<;>(simp only;first|omega|decide)
  have hfj:∃j:Nat,z.f=5*(j:Int):=by
   rw[e2]
   cases hy<;>(first|(rename_i hF;obtain⟨j,-,e⟩:=hF;exact⟨j,e⟩)|exact⟨0,rfl⟩|skip)
   all_goals (simp only;first|exact⟨0,rfl⟩|(rename_i a _ ;obtain⟨j,-,e⟩:=a;exact⟨j,e⟩)|skip)
   all_goals (first|(rename_i a _ _;obtain⟨j,-,e⟩:=a;exact⟨j,e⟩)|(rename_i a _ _ _;obtain⟨j,-,e⟩:=a;exact⟨j,e⟩)|(rename_i a _ _ _ _;obtain⟨j,-,e⟩:=a;exact⟨j,e⟩)|(rename_i a _ _ _ _ _;obtain⟨j,-,e⟩:=a;exact⟨j,e⟩)|(rename_i a _ _ _ _ _ _;obtain⟨j,-,e⟩:=a;exact⟨j,e⟩))
  refine⟨⟨fun h=>?_,fun h=>absurd h hne,hd1,hd2⟩,by omega,by omega,fun h=>absurd h hne,hfj⟩
  unfold Ac.sh
  rw[e3,e4,e5,e6]
  rw[e1] at h
  cases hy<;>simp only at h
  all_goals first|omega|skip
  rename_i hp1 hp2 hq1 hq2 hs
  exact⟨(Fv hs).1,(Fv hs).2,⟨by simp only;omega,by simp only;omega⟩,⟨by simp only;omega,by simp only;omega⟩,by simp only;omega⟩
structure TL (xs:List Ac):Prop where
 all:∀x∈xs,TA x
 key:xs.Pairwise fD
 Zj:(jM xs).Nodup
theorem wK (xs ys:List Ac):jM (xs++ys)=jM xs++jM ys:=by unfold jM;rw[List.filter_append,lS]
theorem Hq {I:Mem} {zl:List Ac} {ps:List Pa} (h1:dX (oM I) zl ps) (h2:Made ps) (hl:zl.length≤100) (i:Nat) (hi:i<zl.length):
 TA zl[i]∧35600≤zl[i].d∧zl[i].d≤38000∧(zl[i].k=0→zl[i].f=5*(qW (ps.take i):Int))∧(∃j:Nat,zl[i].f=5*(j:Int))∧zl[i].n=4*(i:Int):=by
 have hlen:=dX.length h1
 have hp:i<ps.length:=by omega
 have hA:=h1.get i hi hp
 obtain⟨hg,hn,-⟩:=h2 i hp
 have hN:qW (ps.take i)≤100:=by have:=zT (ps.take i);rw[List.length_take] at this;omega
 obtain⟨a1,a2,a3,a4,a5⟩:=U5 hN hA hg
 exact⟨a1,a2,a3,a4,a5,by rw[hA.n,hn]⟩
theorem Fz {I:Mem}:∀{zl:List Ac} {ps:List Pa},dX (oM I) zl ps→Made ps→zl.length≤100→jM zl=(List.range (qW ps)).map fun j:Nat=>5*(j:Int):=by
 intro zl ps h1 h2 hl
 have key:∀k,k≤zl.length→jM (zl.take k)=(List.range (qW (ps.take k))).map fun j:Nat=>5*(j:Int):=by
  intro k
  induction k with
  | zero=>intro _;simp[jM,qW]
  | succ k ih=>
   intro hk
   have hlen:=dX.length h1
   have hi:k<zl.length:=by omega
   have hp:k<ps.length:=by omega
   rw[List.take_add_one,List.getElem?_eq_getElem hi,List.take_add_one,List.getElem?_eq_getElem hp]
   show jM (zl.take k++[zl[k]])=(List.range (qW (ps.take k++[ps[k]]))).map _
   rw[NJ,EN,ih (by omega)]
   have hg:=Hq h1 h2 hl k hi
   have hA:=h1.get k hi hp
   by_cases h0:zl[k].k=0
   ·rw[if_pos h0,if_pos (by rw[←hA.k];exact h0),List.range_succ,lS,hg.2.2.2.1 h0];rfl
   ·rw[if_neg h0,if_neg (by rw[←hA.k];exact h0)];simp
 have hlen:=dX.length h1
 have:=key zl.length (Nat.le_refl _)
 rw[List.take_length] at this
 rw[this,hlen,List.take_length]
theorem X7 (n:Nat):((List.range n).map fun j:Nat=>5*(j:Int)).Nodup:=by
 refine List.Pairwise.map _ (fun a b h=>?_) List.nodup_range
 intro e
 exact h (by omega)
theorem NM {I:Mem} {zl:List Ac} (h:qy I zl) (hl:zl.length≤14):TL zl:=by
 obtain⟨ps,h1,h2⟩:=h
 have hg:=fun i hi=>Hq h1 h2 (by omega) i hi
 refine⟨fun x hx=>?_,?_,?_⟩
 ·obtain⟨i,hi,rfl⟩:=List.mem_iff_getElem.1 hx
  exact (hg i hi).1
 ·rw[List.pairwise_iff_getElem]
  intro i j hi hj hij
  right
  rw[(hg i hi).2.2.2.2.2,(hg j hj).2.2.2.2.2]
  omega
 ·rw[Fz h1 h2 (by omega)]
  exact X7 _
theorem NP {l:List Int} {x:Ac} (h:x∈iM l):TA x∧x.d<135:=by
 rcases BQ h with rfl|rfl|h
 ·exact⟨⟨fun h=>absurd h (by decide),fun _=>⟨⟨by decide,by decide⟩,by decide,by decide⟩,by decide,by decide⟩,by decide⟩
 ·exact⟨⟨fun h=>absurd h (by decide),fun _=>⟨⟨by decide,by decide⟩,by decide,by decide⟩,by decide,by decide⟩,by decide⟩
 ·have h1:=h.d1
  have h2:=h.d2
  refine⟨⟨fun hk=>?_,fun hk=>?_,by omega,by omega⟩,by omega⟩
  ·obtain⟨q1,q2,q3,q4,q5⟩:=h.tr hk
   exact⟨q1,q2,by omega,by omega,q5⟩
  ·rcases h.kd with e|e|e<;>omega
theorem yx (l:List Int):jM (iM l)=[2,7]:=by
 unfold iM
 rw[wK]
 have e:jM ((List.range (BM l)).map (GZ l))=[]:=by
  rw[List.eq_nil_iff_forall_not_mem]
  intro f hf
  obtain⟨x,hx,hk,-⟩:=QM.1 hf
  have:XK x:=by
   rcases BQ (show x∈iM l from List.mem_append_right _ hx) with e|e|e
   ·obtain⟨i,-,rfl⟩:=List.mem_map.1 hx
    exact (x9 l i).1
   ·obtain⟨i,-,rfl⟩:=List.mem_map.1 hx
    exact (x9 l i).1
   ·exact e
  rcases this.kd with h|h|h<;>omega
 rw[e]
 rfl
theorem U6 (l:List Int):TL (iM l):=⟨fun _ hx=>(NP hx).1,JW l,by rw[yx];decide⟩
theorem Pm {I:Mem} {zl:List Ac} (l:List Int) (h:qy I zl) (hl:zl.length≤8):TL (zl++iM l):=by
 have hT:=NM h (by omega)
 obtain⟨ps,h1,h2⟩:=h
 have hg:=fun i hi=>Hq h1 h2 (by omega) i hi
 refine⟨fun x hx=>?_,?_,?_⟩
 ·rcases List.mem_append.1 hx with h|h
  ·exact hT.all x h
  ·exact (NP h).1
 ·rw[List.pairwise_append]
  refine⟨hT.key,JW l,fun x hx y hy=>?_⟩
  obtain⟨i,hi,rfl⟩:=List.mem_iff_getElem.1 hx
  left
  have:=(NP hy).2
  have:=(hg i hi).2.1
  omega
 ·rw[wK,List.nodup_append]
  refine⟨hT.Zj,by rw[yx];decide,fun a ha b hb e=>?_⟩
  rw[Fz h1 h2 (by omega)] at ha
  obtain⟨j,-,rfl⟩:=List.mem_map.1 ha
  rw[yx] at hb
  simp only[List.mem_cons,List.not_mem_nil,or_false] at hb
  omega
theorem TL.ok {xs:List Ac} (h:TL xs) (hl:xs.length<40):TOk xs:=by
 refine⟨h.key,fun x hx hk=>⟨((h.all x hx).tr hk).1,by have:=((h.all x hx).tr hk).2.1;omega⟩,hl,fun file day f k hf hk=>?_⟩
 have hmem:f∈xs:=(iG xs).subset (List.mem_of_find?_eq_some hf)
 have hk0:f.k=0:=by
  have:=List.find?_some hf
  unfold eY at this
  simp only[Bool.and_eq_true,decide_eq_true_eq] at this
  exact this.1
 have hp:=((h.all f hmem).fi hk0).1
 exact sW file f.d day _ (sortK xs) 0 (bW f.p) () (rP.first ⟨by omega,by omega⟩) (fun x hx hk=>by
  obtain⟨-,-,q1,q2,-⟩:=(h.all x ((iG xs).subset hx)).tr hk
  exact⟨⟨by omega,by omega⟩,by omega,by omega⟩) k hk
end PA
namespace PA
open Go Go.Proofs.YtgicfogmdfdjmaaGreatDoor
def ownB (file:Int) (x:Ac):Bool:=decide (x.f=file)&&(decide (x.k=0)||decide (x.k=16)||decide (x.k=17))
section
variable {xs:List Ac} {file:Int} (hk:xs.Pairwise fD)
include hk
end
theorem TL.own {xs:List Ac} (h:TL xs) (file:Int):TL (xs.filter (ownB file)):=
 ⟨fun x hx=>h.all x (List.mem_filter.1 hx).1,h.key.filter _,by
  have:(jM (xs.filter (ownB file))).Sublist (jM xs):=by
   unfold jM
   exact (List.Sublist.filter _ List.filter_sublist).map _
  exact h.Zj.sublist this⟩
end PA
namespace Go.Proofs.YtgicfogmdfdjmaaGreatDoor
open Go.RowKit PA
def Lst (L:Nat) (J:Mem) (i:Nat) (v:Value) (xs:List Ac):Prop:=(∀w',Ext J w'→w'.cell? ⟨L,i,none⟩=some v)∧lW J v xs∧TL xs∧xs.length<40
theorem Lst.mono {L:Nat} {I J:Mem} {i:Nat} {v:Value} {xs:List Ac} (hl:Mem.le I J) (h:Lst L I i v xs):Lst L J i v xs:=
 ⟨fun w' he=>h.1 w' (fun b o hb=>he b o (hl b o hb)),h.2.1.mono hl,h.2.2⟩
theorem vw (file fK day dq:Int):∀(l:List Ac) (i:Nat) (S:l7) (s:List Hl),(walkT file fK day (LP dq) i l S s).2.length≤s.length+l.length
 | [],_,_,_=>by simp[walkT]
 | x::l,i,S,s=>by
  rw[walkT,List.length_cons]
  split
  ·have h1:=vw file fK day dq l (i+1) (PA.stepT S x).1 (LP dq s i x (PA.stepT S x).2)
   have h2:(LP dq s i x (PA.stepT S x).2).length≤s.length+1:=by
    unfold LP
    split
    ·simp
    ·omega
   omega
  ·have h1:=vw file fK day dq l (i+1) S s
   omega
theorem U7 (file day:Int) (xs:List Ac):(oG file day xs).length≤xs.length:=by
 unfold oG
 split
 ·have:=vw file ((dF file (sortK xs)).getD Ac.zero).d day day (sortK xs) 0 (bW ((dF file (sortK xs)).getD Ac.zero).p) []
  unfold Ko
  rw[iL] at this
  simpa using this
 ·simp
section
variable {W w:World} {A:aG} {g N:Nat} {f:Nat→Ac} {tl:List Value}
end
end Go.Proofs.YtgicfogmdfdjmaaGreatDoor
