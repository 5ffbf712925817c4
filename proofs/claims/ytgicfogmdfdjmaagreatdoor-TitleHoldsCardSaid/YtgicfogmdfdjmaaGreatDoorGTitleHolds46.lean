/- Part of a proof. -/
import Derived.Test.YtgicfogmdfdjmaaGreatDoorGTitleHolds45
namespace PA
open Go Go.RowKit Go.Proofs.YtgicfogmdfdjmaaGreatDoor
structure RJ (I:Mem) (xs:List Ac):Prop where
 tl:TL xs
 t2:∀x∈xs,TA2 x
 l40:xs.length<40
 enc:xu I xs
theorem RJ.mono {I J:Mem} {xs:List Ac} (hl:Mem.le I J) (h:RJ I xs):RJ J xs:=⟨h.tl,h.t2,h.l40,h.enc.mono hl⟩
def V9 (S:l7):Prop:=∀k,(S k).isSome=true→0≤k∧k<(4096:Nat)
theorem OA {S:l7} (h:V9 S) (x:Ac) (hx:x.k=16→(1≤x.p∧x.p≤10)∧(1≤x.q∧x.q≤10)):V9 (PA.stepT S x).1:=by
 unfold PA.stepT
 split
 ·rename_i hk
  have hb:=hx hk
  unfold lN
  split
  ·exact h
  ·split
   ·exact h
   ·intro k hk2
    replace hk2:(if k=x.q then some (jB (aQ S x.q) x.sh).1 else if k=x.p then some (uX (aQ S x.p) x.sh).1 else S k).isSome=true:=hk2
    split at hk2
    ·omega
    ·split at hk2
     ·omega
     ·exact h k hk2
 ·exact h
theorem vN {σ:Type} (file fK day:Int) (ev:σ→Nat→Ac→Bool→σ):∀(l:List Ac) (i:Nat) (S:l7) (s:σ),V9 S→(∀x∈l,x.k=16→(1≤x.p∧x.p≤10)∧(1≤x.q∧x.q≤10))→V9 (walkT file fK day ev i l S s).1
 | [],_,_,_,h,_=>h
 | x::l,i,S,s,h,hl=>by
  unfold walkT
  split
  ·exact vN file fK day ev l _ _ _ (OA h x (hl x (by simp))) fun y hy=>hl y (by simp[hy])
  ·exact vN file fK day ev l _ _ _ h fun y hy=>hl y (by simp[hy])
theorem RN {xs:List Ac} (hx:TL xs) {file day:Int} {f:Ac} (hf:dF file (sortK xs)=some f):V9 (Go.Proofs.YtgicfogmdfdjmaaGreatDoor.kH file day f xs):=by
 have hm:∀x∈sortK xs,x∈xs:=fun x hx=>(iG xs).subset hx
 have hfm:=hm f (List.mem_of_find?_eq_some hf)
 have hfk:f.k=0:=by
  have:=List.find?_some hf
  unfold eY at this
  simp only[Bool.and_eq_true,decide_eq_true_eq] at this
  exact this.1
 have hp:=((hx.all f hfm).fi hfk).1
 refine vN file f.d day _ (sortK xs) 0 (bW f.p) () ?_ (fun x h hk=>by
  obtain⟨-,-,a,b,-⟩:=(hx.all x (hm x h)).tr hk
  exact⟨a,b⟩)
 intro k hk
 unfold bW jd at hk
 split at hk
 ·omega
 ·cases hk
theorem Nu (s:List Hl) (i:Nat) (hi:i<s.length):(jG s)[i*4]?=some (.int .i64 s[i].a)∧(jG s)[i*4+1]?=some (.int .i64 s[i].b)∧(jG s)[i*4+2]?=some (.int .i64 s[i].c)∧(jG s)[i*4+3]?=some (.int .i64 s[i].d):=by
 have e:s=s.take i++s[i]::s.drop (i+1):=by rw[←List.drop_eq_getElem_cons hi,List.take_append_drop]
 have hl:(jG (s.take i)).length=i*4:=by rw[Aa,List.length_take,Nat.min_eq_left (by omega)]
 have key:∀j,j<4→(jG s)[i*4+j]?=([Value.int .i64 s[i].a,.int .i64 s[i].b,.int .i64 s[i].c,.int .i64 s[i].d])[j]?:=fun j hj=>by
  conv=>lhs;rw[e]
  unfold jG at hl ⊢
  rw[List.flatMap_append,List.getElem?_append_right (by omega),hl,Nat.add_sub_cancel_left,List.flatMap_cons,List.getElem?_append_left (by simpa using hj)]
 exact⟨key 0 (by omega),key 1 (by omega),key 2 (by omega),key 3 (by omega)⟩
theorem rW {W w:World} {A:aG} {E:Nat} {a:Option Addr} {n c:Nat} {s:List Hl} (hn:s.length=n) (h:Sat W w (sep (aK E 4 a n c (jG s)) A)) (i:Nat) (hi:i<n):
 ∃g x,a=some ⟨g,0,none⟩∧s[i]?=some x∧w.cell? ⟨g,i*4,none⟩=some (.int .i64 x.a)∧w.cell? ⟨g,i*4+1,none⟩=some (.int .i64 x.b)∧w.cell? ⟨g,i*4+2,none⟩=some (.int .i64 x.c)∧w.cell? ⟨g,i*4+3,none⟩=some (.int .i64 x.d):=by
 have hil:i<s.length:=by omega
 obtain⟨g,rfl,hc⟩:=h.kD (fun e=>by have:=congrArg List.length e;rw[Aa,List.length_nil] at this;omega)
 obtain⟨k0,k1,k2,k3⟩:=Nu s i hil
 exact⟨g,s[i],rfl,by rw[List.getElem?_eq_getElem hil],hc _ _ k0,hc _ _ k1,hc _ _ k2,hc _ _ k3⟩
theorem Lp {α:Type} (p:α→Bool) {l:List α} {k:Nat} {x:α} (h:l[k]?=some x):(l.take (k+1)).filter p=(l.take k).filter p++(if p x=true then [x] else []):=by
 rw[List.take_add_one,h,List.filter_append]
 congr 1
 by_cases e:p x=true<;>simp[e]
end PA
namespace Go.Proofs.YtgicfogmdfdjmaaGreatDoor
open Go.RowKit PA
set_option maxRecDepth 100000 in
set_option maxHeartbeats 2000000 in
theorem Dz {W w:World} {A:aG} {I:Mem} (file day:Int) (v:Value) (xs:List Ac) (hx:RJ I xs) (hv:lW I v xs) (h:Sat W w (sep (kn I) A)):
 Calls Tryz.prog 16 #[.int .i64 file,.int .i64 day,v] w fun e w'=>∃a c' J,e=.returned (.tuple #[.slice a (oG file day xs).length c',.int .i64 (aP file day (sortK xs))])∧Mem.le I J∧Sat W w' (sep (aK 84 4 a (oG file day xs).length c' (jG (oG file day xs))) (sep (kn J) A)):=by
 obtain⟨Po,iU⟩:∃P:Ending→World→Prop,P=fun e w'=>∃a c' J,e=.returned (.tuple #[.slice a (oG file day xs).length c',.int .i64 (aP file day (sortK xs))])∧Mem.le I J∧Sat W w' (sep (aK 84 4 a (oG file day xs).length c' (jG (oG file day xs))) (sep (kn J) A)):=⟨_,rfl⟩
 rw[←iU]
 have dZ:=ah iU
 have zS:=ah (Dy file day v xs hx.tl hx.t2 hx.l40 hx.enc hv h)
 have lM:=hx.l40
 clear iU hx hv h
 go_enter Tryz.func16,Tryz.ntmps16
 go_wp2_with fail
 refine zS.out.mono ?_
 obtain⟨er,her⟩:=aC (aP file day (sortK xs))
 rw[←her]
 rintro e w2 (⟨h0,rfl,J,hle,h2⟩|⟨h0,p,b,d,app,g,c,f,fo,J,rfl,hf,hle,hcj,hfk,h2⟩)
 ·have hb:(er !=0)=true:=by simp[h0]
  have iR:Hid (Po (.returned (.tuple #[.slice none 0 0,.int .i64 er])) w2):=ah (by
   have e:oG file day xs=[]:=by unfold oG;rw[←her,if_neg h0]
   rw[dZ.out,e,←her]
   exact⟨none,0,J,rfl,hle,h2.cZ 84 4⟩)
  clear h0 hle h2 zS her
  go_wp2
  exact iR.out
 ·subst h0
  obtain⟨aF,cF,aD,cD,aL,cL,hO⟩:=xw h2
  obtain⟨vA,hvA⟩:=aC (Value.slice b xs.length d)
  obtain⟨vF,hvF⟩:=aC (Value.slice aF (o9 file day fo xs).fl.length cF)
  obtain⟨vD,hvD⟩:=aC (Value.slice aD (o9 file day fo xs).dn.length cD)
  obtain⟨li,YW⟩:=aC ((o9 file day fo xs).li)
  obtain⟨n,hn⟩:=aC (li.length)
  rw[←YW,←hvA,←hvF,←hvD,←hn] at hO
  have h3:Sat W w2 (sep (blk p (.cells #[vA,.int .i64 app,.slice (some ⟨g,0,none⟩) 4096 c,vF,vD,.slice aL n cL] 74 (0,0))) (sep (aK 84 4 aL n cL (jG li)) (sep (kn J) A))):=by
   have h4:Sat W w2 (sep (aK 3 1 aF (o9 file day fo xs).fl.length cF ((o9 file day fo xs).fl.map PA.iv)) (sep (aK 3 1 aD (o9 file day fo xs).dn.length cD ((o9 file day fo xs).dn.map fun t=>PA.iv (t.1:Int))) (sep (Ah 57 g 4096 f) (sep (blk p (.cells #[vA,.int .i64 app,.slice (some ⟨g,0,none⟩) 4096 c,vF,vD,.slice aL n cL] 74 (0,0))) (sep (aK 84 4 aL n cL (jG li)) (sep (kn J) A)))))):=by simpa only[ay,au,aj] using hO
   exact h4.drop.drop.drop
  have hlen:n≤40:=by
   have h5:∀(l:List Ac) (i:Nat) (S:l7) (s:WV),(walkT file fo.d day qH i l S s).2.li.length≤s.li.length+l.length:=by
    intro l
    induction l with
    | nil=>intro i S s;simp[walkT]
    | cons x l ih=>
     intro i S s
     unfold walkT
     split
     ·have h6:=ih (i+1) (PA.stepT S x).1 (qH s i x (PA.stepT S x).2)
      have h7:(qH s i x (PA.stepT S x).2).li.length≤s.li.length+1:=by
       unfold qH
       split
       ·split<;>simp
       ·split<;>simp
      rw[List.length_cons];omega
     ·have h6:=ih (i+1) S s
      rw[List.length_cons];omega
   have h8:=h5 (sortK xs) 0 (bW fo.p) ⟨[],[],[]⟩
   rw[show (walkT file fo.d day qH 0 (sortK xs) (bW fo.p) ⟨[],[],[]⟩).2=o9 file day fo xs from rfl,←YW,iL] at h8
   simp at h8;omega
  have eT:oG file day xs=li.filter (holdB day):=by unfold oG;rw[←her,if_pos rfl,hf,YW,tel_li];rfl
  have HE:=ah (And.intro her (And.intro hle (And.intro eT hn)))
  have hnz:(n:Int)≤40:=by omega
  have H3:=ah h3
  clear hO hvA hvF hvD h2 hle hcj hfk hf zS her eT hn h3 YW lM
  go_wp2_with fail
  go_loopw [10,11] (fun ov kv wr=>∃(k m c':Nat) (a':Option Addr) (os:List Hl),ov=.slice a' m c'∧kv=.int .i64 k∧k≤n∧m≤k∧Hid (os=(li.take k).filter (holdB day)∧m=os.length)∧Sat W wr (sep (aK 84 4 a' m c' (jG os)) (sep (blk p (.cells #[vA,.int .i64 app,.slice (some ⟨g,0,none⟩) 4096 c,vF,vD,.slice aL n cL] 74 (0,0))) (sep (aK 84 4 aL n cL (jG li)) (sep (kn J) A))))) (fun _ kv _=>n-(intOf kv).toNat)
  case atStart=>exact⟨0,0,0,none,[],rfl,rfl,by omega,by omega,ah ⟨by simp,rfl⟩,H3.out.cZ 84 4⟩
  case round=>
   obtain⟨k,m,c',a',os,rfl,rfl,hk,hm,HO,hS⟩:=hrel
   clear H3
   have v5:wr.cell? ⟨p,5,none⟩=some (.slice aL n cL):=hS.p1.cell 5
   by_cases hlt:k<n
   ·as_aux_lemma=>
    have hltz:(k:Int)<(n:Int):=by omega
    obtain⟨gL,x,rfl,hx,x0,x1,x2,x3⟩:=rW HE.out.2.2.2.symm hS.p2 k hlt
    have hft:=Lp (holdB day) hx
    rw[←HO.out.1] at hft
    obtain⟨xa,xb,xc,xd⟩:=x
    simp only at x0 x1 x2 x3
    have XC:(k:Int)<40:=by omega
    have SA:=ah (And.intro hft hlt)
    have aa8:=hS
    have HS:=ah hS
    by_cases hp1:xc≤day
    ·by_cases hp2:day≤xd
     ·have hh:holdB day ⟨xa,xb,xc,xd⟩=true:=by unfold holdB;simp;omega
      have hB:=hS.dD (.cells #[.int .i64 xa,.int .i64 xb,.int .i64 xc,.int .i64 xd] 84)
      have hsrc:=dS wr [.int .i64 xa,.int .i64 xb,.int .i64 xc,.int .i64 xd] 84
      have gI:=ah hsrc
      have HH:=ah hh
      clear hsrc hS aa8 hft hx hlt hk hh HS
      go_wp2_with (at_builtin;refine aJ rfl _ _ 44 rfl 84 4 32 _ Tryz.underlying44 F9 rfl rfl hB rfl [.int .i64 xa,.int .i64 xb,.int .i64 xc,.int .i64 xd] rfl (by simp) (by intro b' hb;cases hb;exact gI.out) (by simp[Value.oneCell']) (by omega) (by unfold maxLen;omega) ?_)
      intro a5 c5 w5 h5
      have H5:=ah h5
      clear h5 hB v5 x0 x1 x2 x3
      go_wp2
      go_roundw
      case rel=>exact⟨k+1,m+1,c5,a5,os++[⟨xa,xb,xc,xd⟩],rfl,by go_num,by have:=SA.out.2;omega,by omega,ah ⟨by rw[SA.out.1,if_pos HH.out],by rw[dI,HO.out.2];rfl⟩,by
       have h6:=H5.out
       rw[pR];exact h6⟩
      case measure=>simp[intOf];have:=SA.out.2;omega
     ·have hh:holdB day ⟨xa,xb,xc,xd⟩=false:=by unfold holdB;simp;omega
      have HH:=ah hh
      clear hS aa8 hft hx hlt hk hh
      go_wp2
      go_roundw
      case rel=>exact⟨k+1,m,c',a',os,rfl,by go_num,by have:=SA.out.2;omega,by omega,ah ⟨by rw[SA.out.1,if_neg (by rw[HH.out];simp),List.append_nil],HO.out.2⟩,HS.out⟩
      case measure=>simp[intOf];have:=SA.out.2;omega
    ·have hh:holdB day ⟨xa,xb,xc,xd⟩=false:=by unfold holdB;simp;omega
     have HH:=ah hh
     clear hS aa8 hft hx hlt hk hh
     go_wp2
     go_roundw
     case rel=>exact⟨k+1,m,c',a',os,rfl,by go_num,by have:=SA.out.2;omega,by omega,ah ⟨by rw[SA.out.1,if_neg (by rw[HH.out];simp),List.append_nil],HO.out.2⟩,HS.out⟩
     case measure=>simp[intOf];have:=SA.out.2;omega
   ·obtain rfl:k=n:=by omega
    have iR:Hid (Po (.returned (.tuple #[.slice a' m c',.int .i64 0])) wr):=ah (by
     have e:os=oG file day xs:=by rw[HE.out.2.2.1,HO.out.1,List.take_of_length_le (by rw[←HE.out.2.2.2];exact Nat.le_refl _)]
     rw[dZ.out,←e,←HE.out.1,←HO.out.2]
     refine⟨a',c',J,rfl,HE.out.2.1,?_⟩
     have h6:Sat W wr (sep (blk p (.cells #[vA,.int .i64 app,.slice (some ⟨g,0,none⟩) 4096 c,vF,vD,.slice aL k cL] 74 (0,0))) (sep (aK 84 4 aL k cL (jG li)) (sep (aK 84 4 a' m c' (jG os)) (sep (kn J) A)))):=by simpa only[ay,au,aj] using hS
     exact h6.drop.drop)
    clear hS hlt hk hm HO
    go_wp2
    exact iR.out
end Go.Proofs.YtgicfogmdfdjmaaGreatDoor
