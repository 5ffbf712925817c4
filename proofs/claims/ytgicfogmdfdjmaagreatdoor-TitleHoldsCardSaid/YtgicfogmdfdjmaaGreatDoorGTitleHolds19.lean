/- Part of a proof. -/
import Derived.Test.YtgicfogmdfdjmaaGreatDoorGTitleHolds11
import Derived.Test.YtgicfogmdfdjmaaGreatDoorGTitleHolds18
namespace Go.Proofs.YtgicfogmdfdjmaaGreatDoor
open Go.RowKit PA
theorem UY {W w:World} {A:aG} (v fv:Value) (h:Sat W w A):Calls Tryz.prog 78 #[v,.int .i64 0,.int .i64 0,fv] w fun e w'=>e=.returned (.tuple #[])∧Sat W w' A:=by
 go_enter Tryz.func78,Tryz.ntmps78
 go_wp2
 go_loopw [8] (fun iv wr=>iv=.int .i64 1∧Sat W wr A) (fun _ _=>0)
 case atStart=>exact⟨rfl,h⟩
 case round=>
  obtain⟨rfl,hS⟩:=hrel
  go_wp2
  go_end0
  exact⟨rfl,hS⟩
theorem zf {W w:World} {A:aG} (v fv:Value) (h:Sat W w A):Calls Tryz.prog 64 #[v,.int .i64 0,fv] w fun e w'=>e=.returned (.tuple #[])∧Sat W w' A:=by
 have HI:=ah (fun w (h:Sat W w A)=>UY v fv h)
 go_enter Tryz.func64,Tryz.ntmps64
 go_wp2
 go_loopw [7,8] (fun av iv wr=>av=.int .i64 0∧iv=.int .i64 20∧Sat W wr A) (fun _ _ _=>0)
 case atStart=>exact⟨rfl,rfl,h⟩
 case round=>
  obtain⟨rfl,rfl,hS⟩:=hrel
  go_wp2_with fail
  refine (HI.out _ hS).mono ?_
  rintro e w2 ⟨rfl,h2⟩
  go_wp2
  go_loopw [6] (fun iv wr=>iv=.int .i64 20∧Sat W wr A) (fun _ _=>0)
  case atStart=>exact⟨rfl,h2⟩
  case round=>
   obtain⟨rfl,hS3⟩:=hrel
   go_wp2
   go_end0
   exact⟨rfl,hS3⟩
theorem NH (w:World):Calls Tryz.prog 49 #[.slice none 0 0] w fun e w'=>e=.returned (.slice none 0 0)∧w=w':=by
 have hq:=fun w a n c=>Lib.run_eql_slice_nil (P:=Tryz.prog) w 29 67 a n c 0 0 Tryz.underlying29
 go_enter Tryz.func49,Tryz.ntmps49
 go_wp2
 go_ret
 exact⟨rfl,rfl⟩
theorem QH {W w:World} {A:aG} (h:Sat W w A):Calls Tryz.prog 36 #[.slice none 0 0] w fun e w'=>e=.returned (.slice none 0 0)∧Sat W w' A:=by
 have HS:=ah (fun w (h:Sat W w A)=>zf (.slice none 0 0) (.func (.func 51) #[] #[]) h)
 go_enter Tryz.func36,Tryz.ntmps36
 go_wp2_with fail
 refine (NH w).mono ?_
 rintro e w1 ⟨rfl,rfl⟩
 go_wp2_with (first|(go_at_call 64;refine (HS.out _ h).mono ?_)|go_in)
 rintro e w2 ⟨rfl,h2⟩
 go_wp2
 first
 | (go_end0;go_wp2;go_ret)
 | go_ret
 exact⟨rfl,h2⟩
theorem NI {W w:World} {A:aG} {I:Mem} (b:Addr) (c:Nat) (hw:zB (some b) 0 c) (h:Sat W w (sep (kn I) A)):Calls Tryz.prog 36 #[.slice (some b) 0 c] w fun e w'=>∃a' c',e=.returned (.slice a' 0 c')∧Sat W w' (sep (kn I) A):=by
 have hcl:=ah (qQ b 0 c [] rfl (by omega) hw (.inl rfl) h)
 have HS:=ah (fun v w (h:Sat W w (sep (kn I) A))=>zf v (.func (.func 51) #[] #[]) h)
 clear h
 go_enter Tryz.func36,Tryz.ntmps36
 go_wp2_with fail
 refine hcl.out.mono ?_
 rintro e w1 ⟨a',c',rfl,h1⟩
 have H1:=ah h1.cO
 clear h1 hcl
 go_wp2_with (first|(go_at_call 64;refine (HS.out _ _ H1.out).mono ?_)|go_in)
 rintro e w2 ⟨rfl,h2⟩
 go_wp2
 first
 | (go_end0;go_wp2;go_ret)
 | go_ret
 exact⟨_,_,rfl,h2⟩
def UZ (J:Mem) (u:Value) (ys:List Ac):Prop:=(∃g c,u=.slice (some ⟨g,0,none⟩) ys.length c∧0<ys.length∧bP (some ⟨g,0,none⟩) (bI ys) J)∨(ys=[]∧∃a c,u=.slice a 0 c)
theorem U0 {W w:World} {A:aG} {I:Mem} (v:Value) (xs:List Ac) (hD:xs.Pairwise fD) (lM:xs.length<40) (hv:lW I v xs) (h:Sat W w (sep (kn I) A)):
 Calls Tryz.prog 36 #[v] w fun e w'=>∃(u:Value) (J:Mem),e=.returned u∧Mem.le I J∧UZ J u (sortK xs)∧Sat W w' (sep (kn J) A):=by
 obtain⟨a,n,c,rfl,hn,hsw,hc⟩:=hv
 rcases Nat.eq_zero_or_pos n with h0|h0
 ·have hx:xs=[]:=List.eq_nil_of_length_eq_zero (by omega)
  subst h0 hx
  cases a with
  | none=>
   obtain rfl:=hsw.2.2 rfl
   refine (QH h).mono ?_
   rintro e w' ⟨rfl,h2⟩
   exact⟨_,I,rfl,Mem.le_refl _,.inr ⟨by simp[sortK],_,_,rfl⟩,h2⟩
  | some b=>
   refine (NI b c hsw h).mono ?_
   rintro e w' ⟨a',c',rfl,h2⟩
   exact⟨_,I,rfl,Mem.le_refl _,.inr ⟨by simp[sortK],_,_,rfl⟩,h2⟩
 ·have hne:bI xs≠[]:=fun e=>by have:=congrArg List.length e;rw[fF,List.length_nil] at this;omega
  obtain⟨b,o,rfl,-⟩:=fV hc hne
  refine (uZ ⟨b,o,none⟩ n c xs hn.symm hD h0 (by omega) hsw hc h).mono ?_
  rintro e w' ⟨g,c',J,rfl,hle,h1,h2,h3,h4⟩
  have hl:=iL xs
  exact⟨_,J,rfl,hle,.inl ⟨g,c',by rw[hl,←hn],by rw[hl];omega,h3⟩,h4⟩
theorem QI {W w:World} {A:aG} {J:Mem} (file:Int) (Bf:Nat) (hJ:J Bf=some (.cells #[.int .i64 file] 3 (0,0))) (u:Value) (ys:List Ac) (lM:ys.length≤65536) (hu:UZ J u ys) (h:Sat W w (sep (kn J) A)):
 Calls Tryz.prog 52 #[u,.func (.func 53) #[] #[.pointer (some ⟨Bf,0,none⟩)]] w fun e w'=>e=.returned (.int .i64 (BA file ys))∧Sat W w' (sep (kn J) A):=by
 rcases hu with ⟨g,c,rfl,-,hc⟩|⟨rfl,a,c,rfl⟩
 ·exact rO file Bf hJ g _ c ys rfl lM hc h
 ·go_enter Tryz.func52,Tryz.ntmps52
  go_wp2
  go_loopw [8] (fun kv wr=>kv=.int .i64 0∧Sat W wr (sep (kn J) A)) (fun _ _=>0)
  case atStart=>exact⟨rfl,h⟩
  case round=>
   obtain⟨rfl,hS⟩:=hrel
   go_wp2
   go_ret
   exact⟨rfl,hS⟩
theorem QJ {file:Int} {ys:List Ac} (h:dF file ys=none):BA file ys=-1:=by
 unfold dF at h
 rw[List.find?_eq_none] at h
 unfold BA
 have:ys.findIdx? (eY file)=none:=by rw[List.findIdx?_eq_none_iff];intro x hx;have:=h x hx;simpa using this
 rw[this]
attribute [local go_sem ↓] bQ bZ
attribute [local go_sem] Gu
set_option maxHeartbeats 2000000 in
theorem QK {W w:World} {A:aG} {J:Mem} (file day:Int) (u:Value) (ys:List Ac) (lM:ys.length≤65536) (hu:UZ J u ys) (hr:aP file day ys≠0) (h:Sat W w (sep (kn J) A)):
 Calls Tryz.prog 37 #[.int .i64 file,.int .i64 day,u] w fun e w'=>e=.returned (.tuple #[.agg #[.int .i64 0,.int .i64 0,.int .i64 0,.int .i64 0,.int .i64 0,.int .i64 0,.int .i64 0,.int .i64 0,.int .i64 0,.int .i64 0,.int .i64 0,.slice none 0 0,.slice none 0 0,.slice none 0 0,.slice none 0 0,.int .i64 0,.int .i64 0,.slice none 0 0,.slice none 0 0],.int .i64 (aP file day ys)])∧∃J',Mem.le J J'∧Sat W w' (sep (kn J') A):=by
 obtain⟨J2,hle,hJ2,h1⟩:=(h.alloc (.cells #[.int .i64 file] 3)).settle.learn
 have h2:=h1.alloc (.cells #[.int .i64 0,.int .i64 0,.int .i64 0,.int .i64 0,.int .i64 0,.int .i64 0,.int .i64 0,.int .i64 0,.int .i64 0,.int .i64 0,.int .i64 0,.slice none 0 0,.slice none 0 0,.slice none 0 0,.slice none 0 0,.int .i64 0,.int .i64 0,.slice none 0 0,.slice none 0 0] 67)
 rw[World.size_alloc] at h2
 obtain⟨B,hB⟩:=aC (w.heap.size)
 obtain⟨w1,hw1⟩:=aC ((w.alloc (.cells #[.int .i64 file] 3)).alloc (.cells #[.int .i64 0,.int .i64 0,.int .i64 0,.int .i64 0,.int .i64 0,.int .i64 0,.int .i64 0,.int .i64 0,.int .i64 0,.int .i64 0,.int .i64 0,.slice none 0 0,.slice none 0 0,.slice none 0 0,.slice none 0 0,.int .i64 0,.int .i64 0,.slice none 0 0,.slice none 0 0] 67))
 rw[←hB] at hJ2
 rw[←hB,←hw1] at h2
 have hu2:UZ J2 u ys:=by
  rcases hu with ⟨g,c,e,e0,hc⟩|e
  ·exact .inl ⟨g,c,e,e0,fZ hle hc⟩
  ·exact .inr e
 have hix:=fun w' A' (h':Sat W w' (sep (kn J2) A'))=>QI file B hJ2 u ys lM hu2 h'
 have c0:w1.cell? ⟨B,0,none⟩=some (.int .i64 file):=by rw[cell_of_row _ B 0 _ _ _ (h2.p1.ext _ _ hJ2)];rfl
 obtain⟨er,her⟩:=aC (aP file day ys)
 rw[←her] at hr ⊢
 have U1:=ah her
 have HIX:=ah hix
 have HB:=ah hB
 have HW1:=ah hw1
 have HU:=ah hu2
 have gQ:=ah hle
 have H2:=ah h2
 have HN0:=ah hr
 have hmf:∀(fn:Fn) (first cap:Array Value) (w:World),(Instr.makeFunc fn first cap).run Tryz.prog w=.ok (.func fn first cap) w:=fun _ _ _ _=>rfl
 have hst:=aY H2.out.aN rfl Ac.zero
 have h2b:=H2.out.setRow Ac.zero.cells.toArray
 obtain⟨wb,hwb⟩:=aC (w1.setRow (B+1) Ac.zero.cells.toArray)
 rw[←hwb] at hst h2b
 replace hst:Sem.run Tryz.prog (BN (.pointer (some ⟨B+1,0,none⟩)) (.agg #[.int .i64 0,.int .i64 0,.int .i64 0,.int .i64 0,.int .i64 0,.int .i64 0,.int .i64 0,.int .i64 0,.int .i64 0,.int .i64 0,.int .i64 0,.slice none 0 0,.slice none 0 0,.slice none 0 0,.slice none 0 0,.int .i64 0,.int .i64 0,.slice none 0 0,.slice none 0 0])) w1=.ok () wb:=hst
 have hres:Sem.run Tryz.prog (loadCellsFrom ⟨B+1,0,none⟩ 0 kA #[]) wb=.ok #[.int .i64 0,.int .i64 0,.int .i64 0,.int .i64 0,.int .i64 0,.int .i64 0,.int .i64 0,.int .i64 0,.int .i64 0,.int .i64 0,.int .i64 0,.slice none 0 0,.slice none 0 0,.slice none 0 0,.slice none 0 0,.int .i64 0,.int .i64 0,.slice none 0 0,.slice none 0 0] wb:=fE (x:=Ac.zero) h2b
 have HF:=ah h2b.forget
 clear h2b hwb
 clear hu h hr hle hJ2 h1 h2 hB hw1 hix hu2 her lM
 by_cases hrange:file<0∨4095<file∨day<0∨131072<day
 ·have he5:er=5:=by rw[U1.out];unfold aP;rw[if_pos hrange]
  have HE5:=ah he5
  clear he5
  have hcases:file<0∨(¬file<0∧4095<file)∨(¬file<0∧¬4095<file∧day<0)∨(¬file<0∧¬4095<file∧¬day<0∧131072<day):=by omega
  clear hrange
  rcases hcases with q1|⟨q1,q2⟩|⟨q1,q2,q3⟩|⟨q1,q2,q3,q4⟩
  all_goals
   go_enter Tryz.func37,Tryz.ntmps37
   go_upto_region 1 with (fail)
   simp only[←HB.out]
   rw[←HW1.out]
   go_wp2
   exact bodyPost_ret (v:=.tuple #[.agg #[.int .i64 0,.int .i64 0,.int .i64 0,.int .i64 0,.int .i64 0,.int .i64 0,.int .i64 0,.int .i64 0,.int .i64 0,.int .i64 0,.int .i64 0,.slice none 0 0,.slice none 0 0,.slice none 0 0,.slice none 0 0,.int .i64 0,.int .i64 0,.slice none 0 0,.slice none 0 0],.int .i64 5]) (by simp[results,Tryz.results37,go_sem,↓aT,hres]) rfl ⟨by rw[HE5.out],J2,gQ.out,HF.out⟩
 ·have f1:¬file<0:=fun e=>hrange (.inl e)
  have f2:¬4095<file:=fun e=>hrange (.inr (.inl e))
  have d1:¬day<0:=fun e=>hrange (.inr (.inr (.inl e)))
  have d2:¬131072<day:=fun e=>hrange (.inr (.inr (.inr e)))
  have he:=U1.out
  unfold aP at he
  rw[if_neg hrange] at he
  clear hrange
  cases hf:dF file ys with
  | none=>
   rw[hf] at he
   have he7:er=7:=he
   have JV:=ah he7
   have hidx:=QJ hf
   have QL:Hid (∀w' A',Sat W w' (sep (kn J2) A')→Calls Tryz.prog 52 #[u,.func (.func 53) #[] #[.pointer (some ⟨B,0,none⟩)]] w' fun e w''=>e=.returned (.int .i64 (-1))∧Sat W w'' (sep (kn J2) A')):=ah (by rw[←hidx];exact HIX.out)
   clear he he7 hf hidx HIX hres hst
   go_enter Tryz.func37,Tryz.ntmps37
   go_upto_region 1 with (fail)
   simp only[←HB.out]
   rw[←HW1.out]
   go_wp2_with fail
   refine (QL.out _ _ H2.out.p1).mono ?_
   rintro e w3 ⟨rfl,h3⟩
   have h3b:Sat W w3 (sep (blk (B+1) (.cells #[.int .i64 0,.int .i64 0,.int .i64 0,.int .i64 0,.int .i64 0,.int .i64 0,.int .i64 0,.int .i64 0,.int .i64 0,.int .i64 0,.int .i64 0,.slice none 0 0,.slice none 0 0,.slice none 0 0,.slice none 0 0,.int .i64 0,.int .i64 0,.slice none 0 0,.slice none 0 0] 67 (0,0))) (sep (kn J2) A)):=h3.p1
   have hst:=aY h3b.aN rfl Ac.zero
   have h3c:=h3b.setRow Ac.zero.cells.toArray
   obtain⟨wc,hwc⟩:=aC (w3.setRow (B+1) Ac.zero.cells.toArray)
   rw[←hwc] at hst h3c
   replace hst:Sem.run Tryz.prog (BN (.pointer (some ⟨B+1,0,none⟩)) (.agg #[.int .i64 0,.int .i64 0,.int .i64 0,.int .i64 0,.int .i64 0,.int .i64 0,.int .i64 0,.int .i64 0,.int .i64 0,.int .i64 0,.int .i64 0,.slice none 0 0,.slice none 0 0,.slice none 0 0,.slice none 0 0,.int .i64 0,.int .i64 0,.slice none 0 0,.slice none 0 0])) w3=.ok () wc:=hst
   have hres:Sem.run Tryz.prog (loadCellsFrom ⟨B+1,0,none⟩ 0 kA #[]) wc=.ok #[.int .i64 0,.int .i64 0,.int .i64 0,.int .i64 0,.int .i64 0,.int .i64 0,.int .i64 0,.int .i64 0,.int .i64 0,.int .i64 0,.int .i64 0,.slice none 0 0,.slice none 0 0,.slice none 0 0,.slice none 0 0,.int .i64 0,.int .i64 0,.slice none 0 0,.slice none 0 0] wc:=fE (x:=Ac.zero) h3c
   have HF2:=ah h3c.forget
   clear h3 h3b h3c hwc QL
   go_wp2
   exact bodyPost_ret (v:=.tuple #[.agg #[.int .i64 0,.int .i64 0,.int .i64 0,.int .i64 0,.int .i64 0,.int .i64 0,.int .i64 0,.int .i64 0,.int .i64 0,.int .i64 0,.int .i64 0,.slice none 0 0,.slice none 0 0,.slice none 0 0,.slice none 0 0,.int .i64 0,.int .i64 0,.slice none 0 0,.slice none 0 0],.int .i64 7]) (by simp[results,Tryz.results37,go_sem,↓aT,hres]) rfl ⟨by rw[JV.out],J2,gQ.out,HF2.out⟩
  | some f=>
   rw[hf] at he
   have hfd:day<f.d:=by
    by_cases hq:day<f.d
    ·exact hq
    ·simp only[if_neg hq] at he
     exact absurd he HN0.out
   have he7:er=7:=by simp only[if_pos hfd] at he;exact he
   have JV:=ah he7
   obtain⟨i,hi,hidx,hif⟩:=O8 hf
   rcases HU.out with ⟨g,c,rfl,hpos,hc⟩|⟨hnil,-⟩
   ·have hHI:=HIX.out
    rw[hidx] at hHI
    have QL:=ah hHI
    have hin:(i:Int)<(ys.length:Int):=by omega
    obtain⟨n,hn⟩:=aC (ys.length)
    rw[←hn] at hin QL ⊢
    have acu:ys[i]?=some f:=by rw[List.getElem?_eq_getElem hi,hif]
    have HC:=ah (And.intro hc acu)
    clear acu
    obtain⟨fd,aaI⟩:=aC (f.d)
    rw[←aaI] at hfd
    have HFD:=ah aaI
    have ai6:day<fd:=hfd
    clear he he7 hf hidx hHI HIX hres hst hc hif hn hfd aaI hpos HU
    go_enter Tryz.func37,Tryz.ntmps37
    go_upto_region 1 with (fail)
    simp only[←HB.out]
    rw[←HW1.out]
    go_wp2_with fail
    refine (QL.out _ _ H2.out.p1).mono ?_
    rintro e w3 ⟨rfl,h3⟩
    have hcd:w3.cell? ⟨g,i*19+1,none⟩=some (.int .i64 fd):=by
     obtain⟨hi,hif⟩:=List.getElem?_eq_some_iff.1 HC.out.2
     have hne:bI ys≠[]:=fun e=>by have:=congrArg List.length e;rw[fF,List.length_nil] at this;omega
     obtain⟨b,o,e,hcell⟩:=fV HC.out.1 hne
     cases e
     have:=hcell w3 h3.ext (i*19+1) (.int .i64 fd) (by rw[xA ys i hi 1 (by omega),hif,HFD.out];rfl)
     rwa [Nat.zero_add] at this
    have h3b:Sat W w3 (sep (blk (B+1) (.cells #[.int .i64 0,.int .i64 0,.int .i64 0,.int .i64 0,.int .i64 0,.int .i64 0,.int .i64 0,.int .i64 0,.int .i64 0,.int .i64 0,.int .i64 0,.slice none 0 0,.slice none 0 0,.slice none 0 0,.slice none 0 0,.int .i64 0,.int .i64 0,.slice none 0 0,.slice none 0 0] 67 (0,0))) (sep (kn J2) A)):=h3.p1
    have hst:=aY h3b.aN rfl Ac.zero
    have h3c:=h3b.setRow Ac.zero.cells.toArray
    obtain⟨wc,hwc⟩:=aC (w3.setRow (B+1) Ac.zero.cells.toArray)
    rw[←hwc] at hst h3c
    replace hst:Sem.run Tryz.prog (BN (.pointer (some ⟨B+1,0,none⟩)) (.agg #[.int .i64 0,.int .i64 0,.int .i64 0,.int .i64 0,.int .i64 0,.int .i64 0,.int .i64 0,.int .i64 0,.int .i64 0,.int .i64 0,.int .i64 0,.slice none 0 0,.slice none 0 0,.slice none 0 0,.slice none 0 0,.int .i64 0,.int .i64 0,.slice none 0 0,.slice none 0 0])) w3=.ok () wc:=hst
    have hres:Sem.run Tryz.prog (loadCellsFrom ⟨B+1,0,none⟩ 0 kA #[]) wc=.ok #[.int .i64 0,.int .i64 0,.int .i64 0,.int .i64 0,.int .i64 0,.int .i64 0,.int .i64 0,.int .i64 0,.int .i64 0,.int .i64 0,.int .i64 0,.slice none 0 0,.slice none 0 0,.slice none 0 0,.slice none 0 0,.int .i64 0,.int .i64 0,.slice none 0 0,.slice none 0 0] wc:=fE (x:=Ac.zero) h3c
    have HF2:=ah h3c.forget
    clear h3 h3b h3c hwc QL
    go_wp2
    exact bodyPost_ret (v:=.tuple #[.agg #[.int .i64 0,.int .i64 0,.int .i64 0,.int .i64 0,.int .i64 0,.int .i64 0,.int .i64 0,.int .i64 0,.int .i64 0,.int .i64 0,.int .i64 0,.slice none 0 0,.slice none 0 0,.slice none 0 0,.slice none 0 0,.int .i64 0,.int .i64 0,.slice none 0 0,.slice none 0 0],.int .i64 7]) (by simp[results,Tryz.results37,go_sem,↓aT,hres]) rfl ⟨by rw[JV.out],J2,gQ.out,HF2.out⟩
   ·rw[hnil] at hi;simp at hi
theorem rX (file day:Int) (ys:List Ac):aP file day ys=0∨aP file day ys=5∨aP file day ys=7:=by
 unfold aP
 split
 ·exact .inr (.inl rfl)
 ·cases dF file ys with
  | none=>exact .inr (.inr rfl)
  | some f=>
   by_cases h:day<f.d
   ·exact .inr (.inr (by simp only[if_pos h]))
   ·exact .inl (by simp only[if_neg h])
theorem KC {W w:World} {A:aG} {I:Mem} (file day:Int) (v fv:Value) (xs:List Ac) (hD:xs.Pairwise fD) (lM:xs.length<40) (hv:lW I v xs) (hr:aP file day (sortK xs)≠0) (h:Sat W w (sep (kn I) A)):
 Calls Tryz.prog 23 #[.int .i64 file,.int .i64 day,v,fv] w fun e w'=>e=.returned (.tuple #[.pointer none,.int .i64 (aP file day (sortK xs))])∧∃J,Mem.le I J∧Sat W w' (sep (kn J) A):=by
 have hso:=U0 v xs hD lM hv h
 have hl:=iL xs
 have hfe:=fun u J w' (hu:UZ J u (sortK xs)) (h':Sat W w' (sep (kn J) A))=>QK file day u (sortK xs) (by omega) hu hr h'
 obtain⟨er,her⟩:=aC (aP file day (sortK xs))
 have h57:=rX file day (sortK xs)
 rw[←her] at h57 hr hfe ⊢
 have hc:er=5∨er=7:=by omega
 have iV:=ah hso
 have DL:=ah hfe
 clear hso hfe her h57 hr hl hD lM hv h
 rcases hc with rfl|rfl
 ·go_enter Tryz.func23,Tryz.ntmps23
  go_wp2_with fail
  refine iV.out.mono ?_
  rintro e w2 ⟨u,J,rfl,hle,hu,h2⟩
  go_wp2_with fail
  refine (DL.out u J w2 hu h2).mono ?_
  rintro e w3 ⟨rfl,J2,hle2,h3⟩
  have H3:=ah (And.intro (Mem.le_trans hle hle2) (h3.dD (.cells #[.int .i64 0,.int .i64 0,.int .i64 0,.int .i64 0,.int .i64 0,.int .i64 0,.int .i64 0,.int .i64 0,.int .i64 0,.int .i64 0,.int .i64 0,.slice none 0 0,.slice none 0 0,.slice none 0 0,.slice none 0 0,.int .i64 0,.int .i64 0,.slice none 0 0,.slice none 0 0] 67)))
  clear h2 h3 hle hle2 hu
  go_wp2
  exact bodyPost_ret (v:=.tuple #[.pointer none,.int .i64 5]) (by simp[results,Tryz.results23,go_sem]) rfl ⟨rfl,J2,H3.out.1,H3.out.2⟩
 ·go_enter Tryz.func23,Tryz.ntmps23
  go_wp2_with fail
  refine iV.out.mono ?_
  rintro e w2 ⟨u,J,rfl,hle,hu,h2⟩
  go_wp2_with fail
  refine (DL.out u J w2 hu h2).mono ?_
  rintro e w3 ⟨rfl,J2,hle2,h3⟩
  have H3:=ah (And.intro (Mem.le_trans hle hle2) (h3.dD (.cells #[.int .i64 0,.int .i64 0,.int .i64 0,.int .i64 0,.int .i64 0,.int .i64 0,.int .i64 0,.int .i64 0,.int .i64 0,.int .i64 0,.int .i64 0,.slice none 0 0,.slice none 0 0,.slice none 0 0,.slice none 0 0,.int .i64 0,.int .i64 0,.slice none 0 0,.slice none 0 0] 67)))
  clear h2 h3 hle hle2 hu
  go_wp2
  exact bodyPost_ret (v:=.tuple #[.pointer none,.int .i64 7]) (by simp[results,Tryz.results23,go_sem]) rfl ⟨rfl,J2,H3.out.1,H3.out.2⟩
end Go.Proofs.YtgicfogmdfdjmaaGreatDoor
