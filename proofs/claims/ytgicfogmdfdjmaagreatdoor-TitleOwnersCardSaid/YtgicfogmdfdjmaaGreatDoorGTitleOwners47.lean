/- Part of a proof. -/
import Derived.Test.YtgicfogmdfdjmaaGreatDoorGTitleOwners46
namespace PA
open Go Go.RowKit Go.Proofs.YtgicfogmdfdjmaaGreatDoor
structure PG (I:Mem) (xs:List Ac):Prop where
 tl:TL xs
 t2:∀x∈xs,TA2 x
 l40:xs.length<40
 enc:wF I xs
theorem PG.mono {I J:Mem} {xs:List Ac} (hl:Mem.le I J) (h:PG I xs):PG J xs:=⟨h.tl,h.t2,h.l40,h.enc.mono hl⟩
def TI (S:lC):Prop:=∀k,(S k).isSome=true→0≤k∧k<(4096:Nat)
theorem Md {S:lC} (h:TI S) (x:Ac) (hx:x.k=16→(1≤x.p∧x.p≤10)∧(1≤x.q∧x.q≤10)):TI (PA.stepT S x).1:=by
 unfold PA.stepT
 split
 ·rename_i hk
  have hb:=hx hk
  unfold kY
  split
  ·exact h
  ·split
   ·exact h
   ·intro k hk2
    replace hk2:(if k=x.q then some (jh (aS S x.q) x.sh).1 else if k=x.p then some (uh (aS S x.p) x.sh).1 else S k).isSome=true:=hk2
    split at hk2
    ·omega
    ·split at hk2
     ·omega
     ·exact h k hk2
 ·exact h
theorem uN {σ:Type} (file jd day:Int) (ev:σ→Nat→Ac→Bool→σ):∀(l:List Ac) (i:Nat) (S:lC) (s:σ),TI S→(∀x∈l,x.k=16→(1≤x.p∧x.p≤10)∧(1≤x.q∧x.q≤10))→TI (walkT file jd day ev i l S s).1
 | [],_,_,_,h,_=>h
 | x::l,i,S,s,h,hl=>by
  unfold walkT
  split
  ·exact uN file jd day ev l _ _ _ (Md h x (hl x (by simp))) fun y hy=>hl y (by simp[hy])
  ·exact uN file jd day ev l _ _ _ h fun y hy=>hl y (by simp[hy])
theorem PI {xs:List Ac} (hx:TL xs) {file day:Int} {f:Ac} (hf:dP file (sortK xs)=some f):TI (Go.Proofs.YtgicfogmdfdjmaaGreatDoor.mG file day f xs):=by
 have hm:∀x∈sortK xs,x∈xs:=fun x hx=>(iR xs).subset hx
 have hfm:=hm f (List.mem_of_find?_eq_some hf)
 have hfk:f.k=0:=by
  have:=List.find?_some hf
  unfold eG at this
  simp only[Bool.and_eq_true,decide_eq_true_eq] at this
  exact this.1
 have hp:=((hx.all f hfm).fi hfk).1
 refine uN file f.d day _ (sortK xs) 0 (dI f.p) () ?_ (fun x h hk=>by
  obtain⟨-,-,a,b,-⟩:=(hx.all x (hm x h)).tr hk
  exact⟨a,b⟩)
 intro k hk
 unfold dI iQ at hk
 split at hk
 ·omega
 ·cases hk
theorem PK {S:lC} {n:Nat} {r:Rt} (hr:r=aS S n):jR S [(n:Int)]=if 0<r.n then [((n:Int),r)] else []:=by
 subst hr
 unfold jR
 cases h:S (n:Int) with
 | none=>simp[aS,h]
 | some q=>
  have e:aS S (n:Int)=q:=by unfold aS;rw[h];rfl
  rw[e]
  by_cases hq:0<q.n
  ·simp[h,hq]
  ·simp[h,hq]
theorem V4 {xs:List Ac} (hx:TL xs) {file day:Int} {own:List (Int×Rt)} (h:OwnR file day xs own):own=if aP file day (sortK xs)=0 then oZ (Go.Proofs.YtgicfogmdfdjmaaGreatDoor.mG file day ((dP file (sortK xs)).getD Ac.zero) xs) 4096 else []:=by
 rcases h with ⟨h1,f,hf,ho⟩|⟨h1,h2⟩
 ·rw[if_pos h1,hf]
  exact Rq (PI hx hf) ho
 ·rw[if_neg h1,h2]
def xZ (file day:Int) (xs:List Ac):List (Int×Rt):=if aP file day (sortK xs)=0 then oZ (Go.Proofs.YtgicfogmdfdjmaaGreatDoor.mG file day ((dP file (sortK xs)).getD Ac.zero) xs) 4096 else []
end PA
namespace Go.Proofs.YtgicfogmdfdjmaaGreatDoor
open Go.RowKit PA
set_option maxHeartbeats 2000000 in
theorem Gy {W w:World} {A:aH} {I:Mem} (file:Int) (v:Value) (xs:List Ac) (hx:PG I xs) (hv:lD I v xs) (h:Sat W w (sep (kn I) A)):
 Calls Tryz.prog 8 #[.int .i64 file,v] w fun e w'=>∃a c' J,e=.returned (.tuple #[.slice a (iD file xs).length c',.int .i64 (aP file 131072 (sortK xs))])∧Mem.le I J∧Sat W w' (sep (aN 3 1 a (iD file xs).length c' ((iD file xs).map PA.iv)) (sep (kn J) A)):=by
 obtain⟨Po,iJ⟩:∃P:Ending→World→Prop,P=fun e w'=>∃a c' J,e=.returned (.tuple #[.slice a (iD file xs).length c',.int .i64 (aP file 131072 (sortK xs))])∧Mem.le I J∧Sat W w' (sep (aN 3 1 a (iD file xs).length c' ((iD file xs).map PA.iv)) (sep (kn J) A)):=⟨_,rfl⟩
 rw[←iJ]
 have dX:=ah iJ
 have yZ:=ah (BU file 131072 v xs hx.tl hx.t2 hx.l40 hx.enc hv h)
 clear iJ hx hv h
 go_enter Tryz.func8,Tryz.ntmps8
 go_wp2_with fail
 refine yZ.out.mono ?_
 obtain⟨er,her⟩:=aG (aP file 131072 (sortK xs))
 rw[←her]
 rintro e w2 (⟨h0,rfl,J,hle,h2⟩|⟨h0,p,b,d,app,g,c,f,fo,J,rfl,hf,hle,hcj,hfk,h2⟩)
 ·have hb:(er !=0)=true:=by simp[h0]
  have kM:Hid (Po (.returned (.tuple #[.slice none 0 0,.int .i64 er])) w2):=ah (by
   have e:iD file xs=[]:=by unfold iD;rw[←her,if_neg h0]
   rw[dX.out,e,←her]
   exact⟨none,0,J,rfl,hle,h2.dD 3 1⟩)
  clear h0 hle h2 yZ her
  go_wp2
  exact kM.out
 ·subst h0
  obtain⟨aF,cF,aD,cD,aL,cL,hO⟩:=wG h2
  have v3:w2.cell? ⟨p,3,none⟩=some (.slice aF (mO file 131072 fo xs).fl.length cF):=hO.cell 3
  have e:iD file xs=(mO file 131072 fo xs).fl:=by unfold iD vI;rw[←her,if_pos rfl,hf,tel_fl];rfl
  rw[←e] at hO v3
  have kM:Hid (Po (.returned (.tuple #[.slice aF (iD file xs).length cF,.int .i64 0])) w2):=ah (by
   rw[dX.out,←her]
   refine⟨aF,cF,J,rfl,hle,?_⟩
   have h3:Sat W w2 (sep (blk p (.cells #[.slice b xs.length d,.int .i64 app,.slice (some ⟨g,0,none⟩) 4096 c,.slice aF (iD file xs).length cF,.slice aD (mO file 131072 fo xs).dn.length cD,.slice aL (mO file 131072 fo xs).li.length cL] 74 (0,0))) (sep (yX 57 g 4096 f) (sep (aN 3 1 aD (mO file 131072 fo xs).dn.length cD ((mO file 131072 fo xs).dn.map fun t=>PA.iv (t.1:Int))) (sep (aN 84 4 aL (mO file 131072 fo xs).li.length cL (Nk (mO file 131072 fo xs).li)) (sep (aN 3 1 aF (iD file xs).length cF ((iD file xs).map PA.iv)) (sep (kn J) A)))))):=by simpa only[ay,au,aj] using hO
   exact h3.drop.drop.drop.drop)
  obtain⟨nF,hnF⟩:=aG ((iD file xs).length)
  rw[←hnF] at v3 kM
  clear hO e h2 hle hcj hfk hf yZ her hnF
  go_wp2
  exact kM.out
set_option maxRecDepth 100000 in
set_option maxHeartbeats 2000000 in
theorem Gz {W w:World} {A:aH} {I:Mem} (file day:Int) (v:Value) (xs:List Ac) (hx:PG I xs) (hv:lD I v xs) (h:Sat W w (sep (kn I) A)):
 Calls Tryz.prog 11 #[.int .i64 file,.int .i64 day,v] w fun e w'=>∃a c' J,e=.returned (.tuple #[.slice a (xZ file day xs).length c',.int .i64 (aP file day (sortK xs))])∧Mem.le I J∧Sat W w' (sep (aN 81 3 a (xZ file day xs).length c' (fM (xZ file day xs))) (sep (kn J) A)):=by
 obtain⟨Po,iJ⟩:∃P:Ending→World→Prop,P=fun e w'=>∃a c' J,e=.returned (.tuple #[.slice a (xZ file day xs).length c',.int .i64 (aP file day (sortK xs))])∧Mem.le I J∧Sat W w' (sep (aN 81 3 a (xZ file day xs).length c' (fM (xZ file day xs))) (sep (kn J) A)):=⟨_,rfl⟩
 rw[←iJ]
 have dX:=ah iJ
 have yZ:=ah (BU file day v xs hx.tl hx.t2 hx.l40 hx.enc hv h)
 clear iJ hx hv h
 go_enter Tryz.func11,Tryz.ntmps11
 go_wp2_with fail
 refine yZ.out.mono ?_
 obtain⟨er,her⟩:=aG (aP file day (sortK xs))
 rw[←her]
 rintro e w2 (⟨h0,rfl,J,hle,h2⟩|⟨h0,p,b,d,app,g,c,f,fo,J,rfl,hf,hle,hcj,hfk,h2⟩)
 ·have hb:(er !=0)=true:=by simp[h0]
  have kM:Hid (Po (.returned (.tuple #[.slice none 0 0,.int .i64 er])) w2):=ah (by
   have e:xZ file day xs=[]:=by unfold xZ;rw[←her,if_neg h0]
   rw[dX.out,e,←her]
   exact⟨none,0,J,rfl,hle,h2.dD 81 3⟩)
  clear h0 hle h2 yZ her
  go_wp2
  exact kM.out
 ·subst h0
  obtain⟨aF,cF,aD,cD,aL,cL,hO⟩:=wG h2
  obtain⟨vA,hvA⟩:=aG (Value.slice b xs.length d)
  obtain⟨vF,hvF⟩:=aG (Value.slice aF (mO file day fo xs).fl.length cF)
  obtain⟨vD,hvD⟩:=aG (Value.slice aD (mO file day fo xs).dn.length cD)
  obtain⟨vL,hvL⟩:=aG (Value.slice aL (mO file day fo xs).li.length cL)
  rw[←hvA,←hvF,←hvD,←hvL] at hO
  have h3:Sat W w2 (sep (blk p (.cells #[vA,.int .i64 app,.slice (some ⟨g,0,none⟩) 4096 c,vF,vD,vL] 74 (0,0))) (sep (yX 57 g 4096 f) (sep (kn J) A))):=by
   have h4:Sat W w2 (sep (aN 3 1 aF (mO file day fo xs).fl.length cF ((mO file day fo xs).fl.map PA.iv)) (sep (aN 3 1 aD (mO file day fo xs).dn.length cD ((mO file day fo xs).dn.map fun t=>PA.iv (t.1:Int))) (sep (aN 84 4 aL (mO file day fo xs).li.length cL (Nk (mO file day fo xs).li)) (sep (blk p (.cells #[vA,.int .i64 app,.slice (some ⟨g,0,none⟩) 4096 c,vF,vD,vL] 74 (0,0))) (sep (yX 57 g 4096 f) (sep (kn J) A)))))):=by simpa only[ay,au,aj] using hO
   exact h4.drop.drop.drop
  have eT:xZ file day xs=oZ (mG file day fo xs) 4096:=by unfold xZ;rw[←her,if_pos rfl,hf];rfl
  obtain⟨S,hS⟩:=aG (mG file day fo xs)
  rw[←hS] at eT hfk
  have HE:=ah (And.intro her (And.intro hle (And.intro eT hfk)))
  have H3:=ah h3
  clear hO hvA hvF hvD hvL h2 hle hcj hfk hf yZ her eT hS h3
  go_wp2_with fail
  go_loopw [10,11] (fun ov kv wr=>∃(k m c':Nat) (a':Option Addr) (os:List (Int×Rt)),ov=.slice a' m c'∧kv=.int .i64 k∧k≤4096∧m≤k∧Hid (os=oZ S k∧m=os.length)∧Sat W wr (sep (aN 81 3 a' m c' (fM os)) (sep (blk p (.cells #[vA,.int .i64 app,.slice (some ⟨g,0,none⟩) 4096 c,vF,vD,vL] 74 (0,0))) (sep (yX 57 g 4096 f) (sep (kn J) A))))) (fun _ kv _=>4096-(intOf kv).toNat)
  case atStart=>exact⟨0,0,0,none,[],rfl,rfl,by omega,by omega,ah ⟨by simp[oZ,jR],rfl⟩,H3.out.dD 81 3⟩
  case round=>
   obtain⟨k,m,c',a',os,rfl,rfl,hk,hm,HO,hS⟩:=hrel
   clear H3
   have v2:wr.cell? ⟨p,2,none⟩=some (.slice (some ⟨g,0,none⟩) 4096 c):=hS.p1.cell 2
   by_cases hlt:k<4096
   ·as_aux_lemma=>
    have hltz:(k:Int)<4096:=by omega
    obtain⟨s0,s1⟩:=hS.p2.BP k hlt
    have hone:=PK (HE.out.2.2.2 k)
    have hsucc:=KG S k
    rw[hone,←HO.out.1] at hsucc
    obtain⟨⟨rn,rd⟩,hr⟩:∃z,z=f k:=⟨_,rfl⟩
    rw[←hr] at s0 s1 hsucc
    simp only at hsucc s0 s1
    have V5:=ah (And.intro hsucc hlt)
    clear hone hsucc hr hlt
    by_cases hp:0<rn
    ·have hB:=hS.dM (.cells #[.int .i64 (k:Nat),.int .i64 rn,.int .i64 rd] 81)
     have hsrc:=fE wr [.int .i64 (k:Nat),.int .i64 rn,.int .i64 rd] 81
     have jJ:=ah hsrc
     have HP:=ah hp
     clear hsrc hS
     go_wp2_with (at_builtin;refine aJ rfl _ _ 34 rfl 81 3 24 _ Tryz.underlying34 vJ rfl rfl hB rfl [.int .i64 (k:Nat),.int .i64 rn,.int .i64 rd] rfl (by simp) (by intro b' hb;cases hb;exact jJ.out) (by simp[Value.oneCell']) (by omega) (by unfold maxLen;omega) ?_)
     intro a5 c5 w5 h5
     have H5:=ah h5
     clear h5 hB v2 s0 s1
     go_wp2
     go_roundw
     case rel=>exact⟨k+1,m+1,c5,a5,os++[((k:Int),⟨rn,rd⟩)],rfl,by go_num,by have:=V5.out.2;omega,by omega,ah ⟨by rw[V5.out.1,if_pos HP.out],by rw[List.length_append,HO.out.2];rfl⟩,by
      have h6:=H5.out
      unfold fM at h6 ⊢
      rw[List.flatMap_append];exact h6⟩
     case measure=>simp[intOf];have:=V5.out.2;omega
    ·have HS:=ah hS
     have HP:=ah hp
     clear hS
     go_wp2
     go_roundw
     case rel=>exact⟨k+1,m,c',a',os,rfl,by go_num,by have:=V5.out.2;omega,by omega,ah ⟨by rw[V5.out.1,if_neg HP.out,List.append_nil],HO.out.2⟩,HS.out⟩
     case measure=>simp[intOf];have:=V5.out.2;omega
   ·obtain rfl:k=4096:=by omega
    have kM:Hid (Po (.returned (.tuple #[.slice a' m c',.int .i64 0])) wr):=ah (by
     rw[dX.out,HE.out.2.2.1,←HE.out.1,←HO.out.1,←HO.out.2]
     refine⟨a',c',J,rfl,HE.out.2.1,?_⟩
     have h6:Sat W wr (sep (blk p (.cells #[vA,.int .i64 app,.slice (some ⟨g,0,none⟩) 4096 c,vF,vD,vL] 74 (0,0))) (sep (yX 57 g 4096 f) (sep (aN 81 3 a' m c' (fM os)) (sep (kn J) A)))):=by simpa only[ay,au,aj] using hS
     exact h6.drop.drop)
    clear hS hlt hk hm HO
    go_wp2
    exact kM.out
end Go.Proofs.YtgicfogmdfdjmaaGreatDoor
