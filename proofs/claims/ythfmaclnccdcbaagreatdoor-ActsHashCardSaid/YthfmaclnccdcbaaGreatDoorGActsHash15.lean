/- Part of a proof. -/
import Derived.Test.YthfmaclnccdcbaaGreatDoorGActsHash13
import Derived.OrdersIn
import Derived.TacticsIn
namespace PA
open Go Go.RowKit
def UJ (ops:Array Oper) (bf:Array Nat) (b:Bool) (E:List (Nat×List Nat)):Bool:=
 E.all (fun x=>x.2.all (fun j=>(bf.getD j 0).testBit x.1))&&E.all (fun x=>Dv ops bf (x.2.map fun j=>(j,(.inr none:Kd)))) &&
 E.all (fun x=>E.all fun y=>x==y||(bf.getD x.1 0).testBit y.1||x.2.all fun u=>(Aj b y).all fun v=>fQ ops bf (u,.inr none) v)
section
variable {P:Program} {ops:Array Oper} {Q:Exit→Act→World→Prop} {S:World→Prop}
structure Rq (ops:Array Oper) (bf:Array Nat) (b:Bool) (E:List (Nat×List Nat)):Prop where
 own:∀x∈E,∀j∈x.2,(bf.getD j 0).testBit x.1=true
 seq:∀x∈E,x.2.Pairwise fun u v=>fQ ops bf (u,.inr none) (v,.inr none)=true
 other:∀x∈E,∀y∈E,x≠y→(bf.getD x.1 0).testBit y.1=false→∀u∈x.2,∀v∈Aj b y,fQ ops bf (u,.inr none) v=true
theorem UK {bf:Array Nat} {b:Bool} {E:List (Nat×List Nat)} (h:UJ ops bf b E=true):Rq ops bf b E:=by
 simp only[UJ,Bool.and_eq_true,List.all_eq_true,Bool.or_eq_true,beq_iff_eq] at h;obtain⟨⟨h1,h2⟩,h3⟩:=h;refine⟨h1,fun x hx=>La _ (h2 x hx),fun x hx y hy hne hnb u hu v hv=>?_⟩;rcases h3 x hx y hy with (e|e)|h
 ·exact absurd e hne
 ·rw[hnb] at e;cases e
 ·exact h u hu v hv
theorem Rq.erase {bf:Array Nat} {b:Bool} {E:List (Nat×List Nat)} (h:Rq ops bf b E) (x:Nat×List Nat):Rq ops bf b (E.erase x):=
 ⟨fun y hy=>h.own y (List.mem_of_mem_erase hy),fun y hy=>h.seq y (List.mem_of_mem_erase hy),fun y hy z hz=>h.other y (List.mem_of_mem_erase hy) z (List.mem_of_mem_erase hz)⟩
structure XY (ops:Array Oper) (bf:Array Nat) (listed:Array Bool) (l:List kJ):Prop where
 size:listed.size=ops.size
 mem:∀i,i∈(eu l).map (·.1)↔i<ops.size∧listed.getD i true=false
 nodup:((eu l).map (·.1)).Nodup
 pair:l.Pairwise fun x y=>∀u∈x.fl,∀v∈y.fl,fQ ops bf u v=true
 dep:(eu l).Pairwise fun x y=>lK ops x.1 y.1=false
 self:∀x∈eu l,lK ops x.1 x.1=false
 grp:∀b E,kJ.grp b E∈l→Rq ops bf b E
 closed:∀d r,r<ops.size→listed.getD d false=true→(bf.getD d 0).testBit r=true→listed.getD r false=true
theorem Fv (hsel:∀(j:Nat) (o:Oper) cs b,ops[j]?=some o→o.op≠.select cs b) (hQ:∀c a d v w,Q (.panic c) (a.put d v) w→Q (.panic c) a w)
 (hbf:nV ops (Region.before ops)=true) (hon:∀(j:Nat) (o:Oper),ops[j]?=some o→∀e∈o.after,Region.binds .any e=true→e.on<ops.size):
 ∀(n:Nat) (l:List kJ) (listed:Array Bool),(eu l).length=n→XY ops (Region.before ops) listed l→∀(a:Act) (w:World),nC P ops Q S l (Q .normal) a w→wpAny P .any ops Q n listed a w:=by
 obtain⟨bf,hbe⟩:=ay (Region.before ops);have TW:∀(listed:Array Bool) (i:Nat),listed.size=ops.size→i<ops.size→(listed.getD i false=true↔¬listed.getD i true=false):=fun listed i hs hi=>by
  simp[Array.getD,hs,hi]
 have nil:∀(listed:Array Bool) (l:List kJ),eu l=[]→XY ops (Region.before ops) listed l→Region.ready .any ops listed=[]:=fun listed l hl hI=>by
  simp only[Region.ready,List.filter_eq_nil_iff,List.mem_range];intro i hi;have h':¬listed.getD i true=false:=fun hh=>by have:=(hI.mem i).2 ⟨hi,hh⟩;rw[hl] at this;simp at this
  have h'':listed.getD i true=true:=by simpa using h'
  simp[h'']
 intro n
 induction n with
 | zero=>
  intro l listed hn hI a w h;have hl:=List.eq_nil_of_length_eq_zero hn;exact⟨nil _ l hl hI,Gx l hl a w h⟩
 | succ n ih=>
  intro l listed hn hI a w h;refine⟨fun hr=>?_,fun j hj=>?_⟩
  ·exfalso
   cases hfl:eu l with
   | nil=>rw[hfl] at hn;simp at hn
   | cons x xs=>
    have hx:=(hI.mem x.1).1 (by rw[hfl];simp);have hmem:x.1∈Region.ready .any ops listed:=by
     simp only[Region.ready,List.mem_filter,List.mem_range];refine⟨hx.1,?_⟩;have:listed.getD x.1 true=false:=hx.2;have ho:ops[x.1]?=some ops[x.1]:=Array.getElem?_eq_getElem hx.1;simp only[this,Bool.not_false,Bool.true_and,ho,Option.map_some,Option.getD_some];rw[Array.all_eq_true];intro k hk;have hmem:=Array.getElem_mem hk
     by_cases hb:Region.binds .any (ops[x.1].after[k])=true
     ·have hlt:=hon x.1 _ ho _ hmem hb
      have NZ:lK ops x.1 (ops[x.1].after[k]).on=true:=by
       simp only[lK,ho,Array.any_eq_true];exact⟨k,hk,by simp[hb]⟩
      have hnot:(ops[x.1].after[k]).on∉(eu l).map (·.1):=by
       intro hm;rw[hfl] at hm;simp only[List.map_cons,List.mem_cons,List.mem_map] at hm;rcases hm with hm|⟨y,hy,hm⟩
       ·have:=hI.self x (by rw[hfl];simp)
        rw[hm] at NZ;rw[NZ] at this;cases this
       ·have hd:=hI.dep
        rw[hfl] at hd;have:=(List.pairwise_cons.1 hd).1 y hy;rw[hm,NZ] at this;cases this
      have h2:¬listed.getD (ops[x.1].after[k]).on true=false:=fun e=>hnot ((hI.mem _).2 ⟨hlt,e⟩)
      have:=(TW listed _ hI.size hlt).2 h2;simp[this]
     ·simp[hb]
    rw[hr] at hmem;cases hmem
  ·simp only[Region.ready,List.mem_filter,List.mem_range,Bool.and_eq_true,Bool.not_eq_true'] at hj
   obtain⟨hjs,hjl,hja⟩:=hj;have hjm:=(hI.mem j).2 ⟨hjs,hjl⟩;cases hoj:ops[j]? with
   | none=>simp[hoj] at hja
   | some oj=>
    simp only[hoj,Option.map_some,Option.getD_some] at hja;have J9:∀d,lK ops j d=true→listed.getD d false=true:=fun d hd=>by
     simp only[lK,hoj,Array.any_eq_true] at hd;obtain⟨k,hk,hd⟩:=hd;simp only[Bool.and_eq_true,beq_iff_eq] at hd;rw[Array.all_eq_true] at hja;have:=hja k hk;rw[hd.1] at this;simpa[hd.2] using this
    have hbl:∀r,r<ops.size→((Region.before ops).getD j 0).testBit r=true→listed.getD r false=true:=fun r hr hb=>by
     simp only[nV,List.all_eq_true,List.mem_range] at hbf;have:=hbf j hjs r hr;simp only[hb,Bool.not_true,Bool.false_or,Bool.or_eq_true,List.any_eq_true,List.mem_range,Bool.and_eq_true] at this;rcases this with h|⟨d,_,h1,h2⟩
     ·exact J9 r h
     ·exact hI.closed d r hr (J9 d h1) h2
    have hnotin:∀x∈eu l,((Region.before ops).getD j 0).testBit x.1=false:=fun x hx=>by
     have hxm:=(hI.mem x.1).1 (List.mem_map.2 ⟨x,hx,rfl⟩);cases hb:((Region.before ops).getD j 0).testBit x.1 with
     | false=>rfl
     | true=>exact absurd hxm.2 ((TW listed x.1 hI.size hxm.1).1 (hbl x.1 hxm.1 hb))
    have hclosed:∀d r,r<ops.size→(listed.setIfInBounds j true).getD d false=true→((Region.before ops).getD d 0).testBit r=true→(listed.setIfInBounds j true).getD r false=true:=by
     intro d r hr hd hb
     by_cases e:r=j
     ·subst e;simp[Array.getD,hI.size,hr]
     ·have hg:(listed.setIfInBounds j true).getD r false=listed.getD r false:=getD_set_ne _ _ _ _ _ e
      rw[hg]
      by_cases e2:d=j
      ·subst e2;exact hbl r hr hb
      ·have hg2:(listed.setIfInBounds j true).getD d false=listed.getD d false:=getD_set_ne _ _ _ _ _ e2
       rw[hg2] at hd;exact hI.closed d r hr hd hb
    have aby:(listed.setIfInBounds j true).getD j true=true:=by simp[Array.getD,hI.size,hjs]
    have YH:∀(F:List Nat),(∀i,i∈F↔i∈(eu l).map (·.1)∧i≠j)→∀i,i∈F↔i<ops.size∧(listed.setIfInBounds j true).getD i true=false:=fun F hF i=>by
     rw[hF,hI.mem]
     by_cases e:i=j
     ·subst e;simp[aby]
     ·have hg:(listed.setIfInBounds j true).getD i true=listed.getD i true:=getD_set_ne _ _ _ _ _ e
      rw[hg];simp[e]
    obtain⟨⟨j',kj⟩,hxf,hje⟩:=List.mem_map.1 hjm;obtain rfl:j'=j:=hje;obtain⟨it,hit,hin⟩:=List.mem_flatMap.1 hxf;obtain⟨l1,l2,rfl⟩:=List.append_of_mem hit;have hpw:=List.pairwise_append.1 hI.pair;have hfe:eu (l1++it::l2)=eu l1++(it.fl++eu l2):=by rw[jL,jM]
    have hok:∀x∈eu l1,fQ ops (Region.before ops) x (j',kj)=true∧((Region.before ops).getD j' 0).testBit x.1=false:=fun x hx=>by
     obtain⟨y,hy,hxy⟩:=List.mem_flatMap.1 hx;exact⟨hpw.2.2 y hy it (by simp) x hxy (j',kj) hin,hnotin x (by rw[hfe];exact List.mem_append_left _ hx)⟩
    have hnd:=hI.nodup;rw[hfe] at hnd;rw[wQ] at h;cases it with
    | one i k=>
     simp only[kJ.fl,List.mem_singleton,Prod.mk.injEq] at hin;obtain⟨rfl,rfl⟩:=hin;refine wpOp_mono (fun a' w' ⟨h1,_,_⟩=>ih (l1++l2) (listed.setIfInBounds j' true) ?_ ?_ a' w' (by rw[wQ];exact h1)) (P9 (kj:=kj) hoj hsel hQ (nC P ops Q S (.one j' kj::l2) (Q .normal)) (nC P ops Q S l2 (Q .normal)) ?_ l1 hok a w h)
     ·rintro a w ⟨o,ho,h⟩
      rcases kj with b|_|_|_
      case inr.none=>obtain⟨v,hy,h⟩:=h;exact (hy w).wpOp ho ⟨h,fun h=>(by cases h),fun _=>rfl⟩
      case inr.some.true=>obtain⟨hS,v,hy,h⟩:=h;exact (hy w hS).wpOp ho ⟨h,fun h=>(by cases h),fun _=>rfl⟩
      case inr.some.false=>obtain⟨v,hy,h⟩:=h;exact hy.wpOp ho ⟨h,fun h=>(by cases h),fun _=>rfl⟩
      case inl=>exact wpOp_mono (fun a' w' ⟨h1,h2⟩=>⟨h2,fun hb=>h1 (by cases hb;rfl),fun hb=>(by simp[Kd.eff] at hb)⟩) h
     ·rw[hfe] at hn;rw[jL];simp[kJ.fl] at hn ⊢;omega
     ·have hpf:List.Sublist (l1++l2) (l1++kJ.one j' kj::l2):=List.Sublist.append_left (List.sublist_cons_self _ _) _
      have hsf:List.Sublist (eu (l1++l2)) (eu (l1++kJ.one j' kj::l2)):=by
       rw[hfe,jL];exact List.Sublist.append_left (List.sublist_append_right _ _) _
      refine⟨by simp[hI.size],YH _ fun i=>?_,?_,hI.pair.sublist hpf,hI.dep.sublist hsf,fun x hx=>hI.self x (hsf.subset hx),fun b E hm=>hI.grp b E (hpf.subset hm),hclosed⟩
      ·rw[hfe,jL]
       simp only[kJ.fl,lD,List.map_cons,List.map_nil,List.mem_append,List.mem_cons,List.not_mem_nil,or_false];have hn2:=hI.nodup;rw[hfe] at hn2;simp only[kJ.fl,lD,List.map_cons,List.map_nil,List.nodup_append,List.mem_append,List.mem_cons,List.not_mem_nil,or_false] at hn2;constructor
       ·rintro (hi|hi)
        ·exact⟨.inl hi,fun e=>hn2.2.2 i hi j' (.inl rfl) e⟩
        ·exact⟨.inr (.inr hi),fun e=>hn2.2.1.2.2 j' rfl i hi e.symm⟩
       ·rintro⟨hi|hi|hi,hne⟩
        ·exact .inl hi
        ·exact absurd hi hne
        ·exact .inr hi
      ·exact hI.nodup.sublist (hsf.map _)
    | grp b E=>
     obtain⟨x,Xd,adG⟩:=List.mem_flatMap.1 (show (j',kj)∈E.flatMap (Aj b) from hin);have hG:=hI.grp b E (by simp);have hxm:(x.1,(.inl b:Kd))∈eu (l1++kJ.grp b E::l2):=by
      rw[hfe];refine List.mem_append_right _ (List.mem_append_left _ ?_);exact List.mem_flatMap.2 ⟨x,Xd,List.mem_cons_self⟩
     have hj':(j',kj)=(x.1,.inl b):=by
      rcases List.mem_cons.1 adG with e|hm
      ·exact e
      ·exfalso
       obtain⟨u,hu,e⟩:=List.mem_map.1 hm;have e1:u=j':=congrArg Prod.fst e;have h1:=hG.own x Xd u hu;have h2:=hnotin _ hxm;rw[e1] at h1;rw[h1] at h2;cases h2
     obtain⟨rfl,rfl⟩:j'=x.1∧kj=.inl b:=Prod.mk.inj hj';obtain⟨E1,E2,adM,hEe,hEr⟩:=List.exists_erase_eq Xd;have hfl:eu (l1++kJ.grp b E::l2)=eu l1++(E1.flatMap (Aj b)++((x.1,.inl b)::((x.2.map fun j=>(j,(.inr none:Kd)))++E2.flatMap (Aj b)))++eu l2):=by
      rw[hfe];show eu l1++(E.flatMap (Aj b)++eu l2)=_;rw[hEe,List.flatMap_append,List.flatMap_cons];simp[Aj]
     have hfn:eu (l1++(x.2.map (fun j=>kJ.one j (.inr none))++kJ.grp b (E.erase x)::l2))=eu l1++((x.2.map fun j=>(j,(.inr none:Kd)))++(E1.flatMap (Aj b)++E2.flatMap (Aj b))++eu l2):=by
      rw[jL,jL,jM];show eu l1++(_++((E.erase x).flatMap (Aj b)++eu l2))=_;rw[hEr,List.flatMap_append];have:eu (x.2.map fun j=>kJ.one j (.inr none))=x.2.map fun j=>(j,(.inr none:Kd)):=by
       unfold eu;rw[List.flatMap_map]
       induction x.2 with
       | nil=>rfl
       | cons u us ih=>rw[List.flatMap_cons,ih];rfl
      rw[this];simp
     have hperm:(eu (l1++kJ.grp b E::l2)).Perm ((x.1,.inl b)::eu (l1++(x.2.map (fun j=>kJ.one j (.inr none))++kJ.grp b (E.erase x)::l2))):=by
      rw[hfl,hfn];refine List.Perm.trans ?_ List.perm_middle;refine List.Perm.append_left _ ?_;refine List.Perm.append_right (eu l2) (show List.Perm _ ((x.1,(.inl b:Kd))::_) from List.Perm.trans List.perm_middle (List.Perm.cons _ ?_));rw[←List.append_assoc,←List.append_assoc];exact List.Perm.append_right _ List.perm_append_comm
     have hnd':=(hperm.map (fun y:Nat×Kd=>y.1)).nodup_iff.1 hI.nodup;rw[List.map_cons] at hnd';obtain⟨hxn,adN⟩:=List.nodup_cons.1 hnd';have Zn:∀y∈E1,y∈E∧y≠x:=fun y hy=>⟨by rw[hEe];simp[hy],fun e=>adM (by rw[←e];exact hy)⟩
     have Zo:∀y∈E2,y∈E∧y≠x:=fun y hy=>by
      refine⟨by rw[hEe];simp[hy],fun e=>?_⟩;have hn0:=hI.nodup;rw[hfl] at hn0;simp only[lD,List.map_cons] at hn0;have h3:=(List.nodup_append.1 (List.nodup_append.1 (List.nodup_append.1 hn0).2.1).1).2.1;refine (List.nodup_cons.1 h3).1 (List.mem_append_right _ (List.mem_map.2 ⟨(x.1,.inl b),List.mem_flatMap.2 ⟨y,hy,by rw[e];exact List.mem_cons_self⟩,rfl⟩))
     have hfr:∀y∈E,((Region.before ops).getD x.1 0).testBit y.1=false:=fun y hy=>hnotin (y.1,.inl b) (by rw[hfe];refine List.mem_append_right _ (List.mem_append_left _ ?_);exact List.mem_flatMap.2 ⟨y,hy,List.mem_cons_self⟩)
     have PO:∀u∈x.2,∀v∈E1.flatMap (Aj b)++E2.flatMap (Aj b),fQ ops (Region.before ops) (u,.inr none) v=true:=fun u hu v hv=>by
      rcases List.mem_append.1 hv with hv|hv
      ·obtain⟨y,hy,hvy⟩:=List.mem_flatMap.1 hv
       exact hG.other x Xd y (Zn y hy).1 (fun e=>(Zn y hy).2 e.symm) (hfr y (Zn y hy).1) u hu v hvy
      ·obtain⟨y,hy,hvy⟩:=List.mem_flatMap.1 hv
       exact hG.other x Xd y (Zo y hy).1 (fun e=>(Zo y hy).2 e.symm) (hfr y (Zo y hy).1) u hu v hvy
     have abv:∀{u v:Nat×Kd},fQ ops (Region.before ops) u v=true→lK ops u.1 v.1=false:=fun h=>by
      simp only[fQ,Bool.and_eq_true,Bool.not_eq_true'] at h;exact h.1
     refine wpOp_mono (fun a' w' ⟨h1,_,_⟩=>ih (l1++(x.2.map (fun j=>kJ.one j (.inr none))++kJ.grp b (E.erase x)::l2)) (listed.setIfInBounds x.1 true) ?_ ?_ a' w' (by rw[wQ];exact h1)) (P9 (kj:=.inl b) hoj hsel hQ (nC P ops Q S (.grp b E::l2) (Q .normal)) (nC P ops Q S (x.2.map (fun j=>kJ.one j (.inr none))++kJ.grp b (E.erase x)::l2) (Q .normal)) ?_ l1 hok a w h)
     ·intro a w h
      have wF:(E.all fun r=>!((Region.before ops).getD x.1 0).testBit r.1)=true:=by
       rw[List.all_eq_true];intro r hr;have h9:((Region.before ops).getD x.1 0).testBit r.1=false:=hnotin (r.1,.inl b) (by rw[hfe];refine List.mem_append_right _ (List.mem_append_left _ ?_);exact List.mem_flatMap.2 ⟨r,hr,List.mem_cons_self⟩);rw[h9];rfl
      have hlen:E.length=(E.erase x).length+1:=by
       have hp:0<E.length:=List.length_pos_of_mem Xd;rw[List.length_erase_of_mem Xd];omega
      simp only[nC] at h;rw[hlen] at h;refine wpOp_mono (fun a' w' ⟨h1,h2⟩=>⟨YZ (.grp b (E.erase x)::l2) (Q .normal) x.2 a' w' h2,fun hb=>h1 (by cases hb;rfl),fun hb=>(by simp[Kd.eff] at hb)⟩) (h x Xd wF)
     ·have:=hperm.length_eq
      rw[List.length_cons] at this;omega
     ·have hc:=List.pairwise_cons.1 hpw.2.1
      have hl1:∀y∈l1,∀u∈y.fl,∀v,v∈(x.2.map fun j=>(j,(.inr none:Kd)))∨v∈E1.flatMap (Aj b)++E2.flatMap (Aj b)→fQ ops (Region.before ops) u v=true:=fun y hy u hu v hv=>by
       refine hpw.2.2 y hy (.grp b E) (by simp) u hu v ?_;show v∈E.flatMap (Aj b);rw[hEe,List.flatMap_append,List.flatMap_cons];rcases hv with hv|hv
       ·exact List.mem_append_right _ (List.mem_append_left _ (List.mem_cons_of_mem _ hv))
       ·rcases List.mem_append.1 hv with hv|hv
        ·exact List.mem_append_left _ hv
        ·exact List.mem_append_right _ (List.mem_append_right _ hv)
      have hl2:∀y∈l2,∀v∈y.fl,∀u,u∈(x.2.map fun j=>(j,(.inr none:Kd)))∨u∈E1.flatMap (Aj b)++E2.flatMap (Aj b)→fQ ops (Region.before ops) u v=true:=fun y hy v hv u hu=>by
       refine hc.1 y hy u ?_ v hv;show u∈E.flatMap (Aj b);rw[hEe,List.flatMap_append,List.flatMap_cons];rcases hu with hu|hu
       ·exact List.mem_append_right _ (List.mem_append_left _ (List.mem_cons_of_mem _ hu))
       ·rcases List.mem_append.1 hu with hu|hu
        ·exact List.mem_append_left _ hu
        ·exact List.mem_append_right _ (List.mem_append_right _ hu)
      have hgf:kJ.fl (.grp b (E.erase x))=E1.flatMap (Aj b)++E2.flatMap (Aj b):=by
       show (E.erase x).flatMap (Aj b)=_;rw[hEr,List.flatMap_append]
      have hone:∀y∈x.2.map (fun j=>kJ.one j (.inr none)),∀u∈y.fl,u∈(x.2.map fun j=>(j,(.inr none:Kd))):=fun y hy u hu=>by
       obtain⟨j,hj,rfl⟩:=List.mem_map.1 hy;rw[List.mem_singleton.1 hu];exact List.mem_map.2 ⟨j,hj,rfl⟩
      refine⟨by simp[hI.size],YH _ fun k=>?_,adN,?_,?_,fun y hy=>hI.self y (hperm.symm.subset (List.mem_cons_of_mem _ hy)),?_,hclosed⟩
      ·have hmm:=(hperm.map (fun y:Nat×Kd=>y.1)).mem_iff (a:=k)
       rw[List.map_cons,List.mem_cons] at hmm;rw[hmm];constructor
       ·intro hk
        exact⟨.inr hk,fun e=>hxn (by rw[←e];exact hk)⟩
       ·rintro⟨rfl|hk,hne⟩
        ·exact absurd rfl hne
        ·exact hk
      ·refine List.pairwise_append.2 ⟨hpw.1,List.pairwise_append.2 ⟨?_,List.pairwise_cons.2 ⟨fun y hy u hu v hv=>hl2 y hy v hv u (.inr (by rw[←hgf];exact hu)),hc.2⟩,fun y hy z hz u hu v hv=>?_⟩,fun y hy z hz u hu v hv=>?_⟩
       ·rw[List.pairwise_map]
        refine (hG.seq x Xd).imp fun h u hu v hv=>?_
        rw[List.mem_singleton.1 hu,List.mem_singleton.1 hv];exact h
       ·have h1:=hone y hy u hu
        rcases List.mem_cons.1 hz with rfl|hz
        ·obtain⟨j,hj,rfl⟩:=List.mem_map.1 h1
         exact PO j hj v (by rw[←hgf];exact hv)
        ·exact hl2 z hz v hv u (.inl h1)
       ·rcases List.mem_append.1 hz with hz|hz
        ·exact hl1 y hy u hu v (.inl (hone z hz v hv))
        ·rcases List.mem_cons.1 hz with rfl|hz
         ·exact hl1 y hy u hu v (.inr (by rw[←hgf];exact hv))
         ·exact hpw.2.2 y hy z (by simp[hz]) u hu v hv
      ·have hd:=hI.dep
       rw[hfl] at hd;rw[hfn];obtain⟨a1,a2,a3⟩:=List.pairwise_append.1 hd;obtain⟨b1,b2,b3⟩:=List.pairwise_append.1 a2;obtain⟨c1,c2,c3⟩:=List.pairwise_append.1 b1;obtain⟨d1,d2⟩:=List.pairwise_cons.1 c2;obtain⟨e1,e2,e3⟩:=List.pairwise_append.1 d2;refine List.pairwise_append.2 ⟨a1,List.pairwise_append.2 ⟨List.pairwise_append.2 ⟨e1,List.pairwise_append.2 ⟨c1,e2,fun y hy z hz=>c3 y hy z (List.mem_cons_of_mem _ (List.mem_append_right _ hz))⟩,fun y hy z hz=>?_⟩,b2,fun y hy z hz=>b3 y ?_ z hz⟩,fun y hy z hz=>a3 y hy z ?_⟩
       ·obtain⟨j,hj,rfl⟩:=List.mem_map.1 hy
        exact abv (PO j hj z hz)
       ·rcases List.mem_append.1 hy with hy|hy
        ·exact List.mem_append_right _ (List.mem_cons_of_mem _ (List.mem_append_left _ hy))
        ·rcases List.mem_append.1 hy with hy|hy
         ·exact List.mem_append_left _ hy
         ·exact List.mem_append_right _ (List.mem_cons_of_mem _ (List.mem_append_right _ hy))
       ·rcases List.mem_append.1 hz with hz|hz
        ·rcases List.mem_append.1 hz with hz|hz
         ·exact List.mem_append_left _ (List.mem_append_right _ (List.mem_cons_of_mem _ (List.mem_append_left _ hz)))
         ·rcases List.mem_append.1 hz with hz|hz
          ·exact List.mem_append_left _ (List.mem_append_left _ hz)
          ·exact List.mem_append_left _ (List.mem_append_right _ (List.mem_cons_of_mem _ (List.mem_append_right _ hz)))
        ·exact List.mem_append_right _ hz
      ·intro b' E' hm
       rcases List.mem_append.1 hm with hm|hm
       ·exact hI.grp b' E' (List.mem_append_left _ hm)
       ·rcases List.mem_append.1 hm with hm|hm
        ·obtain⟨j,_,e⟩:=List.mem_map.1 hm
         cases e
        ·rcases List.mem_cons.1 hm with e|hm
         ·cases e
          exact hG.erase x
         ·exact hI.grp b' E' (by simp[hm])
def yS (ops:Array Oper) (bf:Array Nat):List kJ→Bool
 | []=>true
 | .one _ _::l=>yS ops bf l
 | .grp b E::l=>UJ ops bf b E&&yS ops bf l
theorem uH {bf:Array Nat}:∀(l:List kJ),yS ops bf l=true→∀b E,kJ.grp b E∈l→Rq ops bf b E
 | [],_,_,_,h=>by cases h
 | .one _ _::l,h,b,E,hm=>by
  rcases List.mem_cons.1 hm with e|hm
  ·cases e
  ·exact uH l h b E hm
 | .grp b' E'::l,h,b,E,hm=>by
  simp only[yS,Bool.and_eq_true] at h;rcases List.mem_cons.1 hm with e|hm
  ·cases e
   exact UK h.1
  ·exact uH l h.2 b E hm
def xI (ops:Array Oper) (l:List kJ):Bool:=
 Le ops (Region.before ops) l&&TI ops (eu l)&&Du ops&&nV ops (Region.before ops)&&(eu l).length==ops.size&&nodupB ((eu l).map (·.1))&&((eu l).map (·.1)).all (fun i=>decide (i<ops.size))&&(List.range ops.size).all (fun i=>((eu l).map (·.1)).contains i) &&
 ops.all (fun o=>o.after.all fun e=>!Region.binds .any e||decide (e.on<ops.size))&&yS ops (Region.before ops) l
theorem eX {id:Nat} {a:Act} {w:World} (hm:P.follows .mixedOrders=true) (S:World→Prop) (l:List kJ) (hok:xI ops l=true)
 (h:nC P ops (NoPanic Q) S l (Q .normal) a w.drew):(Code.region id ops true).wp P Q a w:=by
 simp only[xI,Bool.and_eq_true] at hok;obtain⟨⟨⟨⟨⟨⟨⟨⟨⟨h1,h0⟩,h2⟩,h3⟩,h4⟩,h7⟩,h8⟩,h5⟩,h6⟩,h9⟩:=hok;have hlen:(eu l).length=ops.size:=by simpa using h4
 have hall:∀i,i<ops.size→i∈(eu l).map (·.1):=fun i hi=>by
  simp only[List.all_eq_true,List.mem_range] at h5;simpa using h5 i hi
 have hback:∀i,i∈(eu l).map (·.1)→i<ops.size:=fun i hi=>by
  rw[List.all_eq_true] at h8;simpa using h8 i hi
 have hd:=Hg _ h0;refine wp_region_noPanic (wp_region_any hm ?_);refine Fv (S:=S) ?_ ?_ h3 ?_ ops.size l _ hlen ?_ a w.drew h
 ·intro j o cs b ho hsel
  simp only[Du,Array.all_eq_true] at h2;obtain⟨hj,rfl⟩:=Array.getElem?_eq_some_iff.1 ho;have:=h2 j hj;rw[hsel] at this;cases this
 ·intro c a d v w hh;exact hh
 ·intro j o ho e he hb
  obtain⟨hj,rfl⟩:=Array.getElem?_eq_some_iff.1 ho;rw[Array.all_eq_true] at h6;have:=h6 j hj;rw[Array.all_eq_true] at this;obtain⟨k,hk,rfl⟩:=Array.mem_iff_getElem.1 he;have:=this k hk;simpa[hb] using this
 ·refine⟨by simp,fun i=>⟨fun hi=>?_,fun hi=>hall i hi.1⟩,nU _ h7,DI l h1,hd.1,hd.2,uH l h9,fun d r _ hd=>?_⟩
  ·have:=hback i hi
   exact⟨this,by simp[Array.getD,this]⟩
  ·exfalso
   simp only[Array.getD,Array.size_replicate] at hd;split at hd<;>simp at hd
theorem NT {W:World} {Pre Mid Post:aA} {v1 v2:Value} {Et:List Value} {a0:Act} {i j:Nat} {js:List Nat} {oi oj:Oper} {di dj:Option Tmp} (hdi:aS ops i=di) (hdj:aS ops j=dj) (hoi:ops[i]?=some oi) (hsi:∀cs b,oi.op≠.select cs b) (hoj:ops[j]?=some oj) (hsj:∀cs b,oj.op≠.select cs b)
 (hb:((Region.before ops).getD j 0).testBit i=true) (h1:iQ P ops W oi a0 Pre (fun v=>sep (fact (v=v1)) Mid)) (h2:iQ P ops W oj (a0.put di v1) Mid (fun v=>sep (fact (v=v2)) Post))
 (hw2:∀v,Region.wanted oj (yielded ops (a0.put di v).tmps)=true) (hpl:js.all (og ops)=true) (hF:xU P ops ((a0.put di v1).put dj v2) js Et):
 zS P ops W a0 (LZ Pre Mid Post v1 v2 Et) [] [(i,[]),(j,js)]:=by
 subst hdj;exact QT hdi hoi hsi hoj hsj hb h1 h2 hw2 hpl hF
theorem FQ {W:World} {Pre Mid Post:aA} {v1 u1 v2:Value} {a0:Act} {i k j:Nat} {oi oj:Oper} {di dk:Option Tmp} (hdi:aS ops i=di) (hdk:aS ops k=dk) (hoi:ops[i]?=some oi) (hsi:∀cs b,oi.op≠.select cs b) (hoj:ops[j]?=some oj) (hsj:∀cs b,oj.op≠.select cs b)
 (hb:((Region.before ops).getD j 0).testBit i=true) (h1:iQ P ops W oi a0 Pre (fun v=>sep (fact (v=v1)) Mid)) (hpl:og ops k=true) (hF:xU P ops (a0.put di v1) [k] [u1])
 (h2:iQ P ops W oj ((a0.put di v1).put dk u1) Mid (fun v=>sep (fact (v=v2)) Post))
 (hw2:∀v u,Region.wanted oj (yielded ops ((a0.put di v).put dk u).tmps)=true):
 zS P ops W a0 (VJ Pre Mid Post v1 u1 v2) [] [(i,[k]),(j,[])]:=by
 subst hdk;exact TY hdi hoi hsi hoj hsj hb h1 hpl hF h2 hw2
theorem twoA_S {W:World} {Pre Mid Post:aA} {v1 v2:Value} {Et:List Value} (h1:∀w X,Sat W w (sep Pre X)→S w) (h2:∀w X,Sat W w (sep Mid X)→S w) (h3:∀w X,Sat W w (sep Post X)→S w):∀us w X,Sat W w (sep (LZ Pre Mid Post v1 v2 Et us) X)→S w
 | [],w,X,h=>h1 w X h
 | [_],w,X,h=>by
  rw[LZ,aj] at h;exact h2 w X (Sat.fact.1 h).2
 | _::_::_,w,X,h=>by
  rw[LZ,aj] at h;exact h3 w X (Sat.fact.1 h).2
theorem Yv {W:World} {Pre Mid Post:aA} {v1 u1 v2:Value} (h1:∀w X,Sat W w (sep Pre X)→S w) (h2:∀w X,Sat W w (sep Mid X)→S w) (h3:∀w X,Sat W w (sep Post X)→S w):∀us w X,Sat W w (sep (VJ Pre Mid Post v1 u1 v2 us) X)→S w
 | [],w,X,h=>h1 w X h
 | [_],w,X,h=>by
  rw[VJ,aj] at h;exact h2 w X (Sat.fact.1 h).2
 | [_,_],w,X,h=>by
  rw[VJ,aj] at h;exact h2 w X (Sat.fact.1 h).2
 | _::_::_::_,w,X,h=>by
  rw[VJ,aj] at h;exact h3 w X (Sat.fact.1 h).2
end
end PA
namespace PA
open Go Go.RowKit
section
variable {P:Program} {ops:Array Oper} {Q:Exit→Act→World→Prop} {S:World→Prop}
theorem Bq {b:Bool} {E:List (Nat×List Nat)} {l:List kJ} {K:Act→World→Prop} {a:Act} {w:World} {n:Nat} (hn:E.length=n) (h:oD P ops Q S b n E (nC P ops Q S l K) a w):nC P ops Q S (.grp b E::l) K a w:=by
 subst hn;exact h
end
end PA
namespace PA
open Go Go.RowKit
section
variable {P:Program} {ops:Array Oper} {Q:Exit→Act→World→Prop} {S:World→Prop} {W:World}
def bZ (ops:Array Oper) (L:List Nat) (f:Nat→Option Value) (a:Act):Act:=L.foldl (fun a x=>match f x with|some v=>a.put (aS ops x) v|none=>a) a
theorem UW (f:Nat→Option Value) (a:Act):bZ ops [] f a=a:=rfl
theorem jr (x:Nat) (L:List Nat) (f:Nat→Option Value) (a:Act):bZ ops (x::L) f a=bZ ops L f (match f x with|some v=>a.put (aS ops x) v|none=>a):=rfl
def fH (f:Nat→Option Value) (x:Nat) (v:Value):Nat→Option Value:=fun y=>if y=x then some v else f y
theorem aK {f:Nat→Option Value} {x y:Nat} {v:Value} (h:y≠x):fH f x v y=f y:=by unfold fH;rw[if_neg h]
theorem cZ {f:Nat→Option Value} {x:Nat} {v:Value}:fH f x v x=some v:=by unfold fH;rw[if_pos rfl]
def yP (ops:Array Oper) (x y:Nat):Prop:=∀d,aS ops x=some d→aS ops y≠some d
theorem DN {x:Nat} {v:Value} (f:Nat→Option Value):∀(L:List Nat),(∀y∈L,yP ops x y)→∀a:Act,bZ ops L f (a.put (aS ops x) v)=(bZ ops L f a).put (aS ops x) v
 | [],_,_=>rfl
 | y::L,h,a=>by
  rw[jr,jr];cases hy:f y with
  | none=>exact DN f L (fun z hz=>h z (List.mem_cons_of_mem _ hz)) a
  | some u=>
   show bZ ops L f ((a.put (aS ops x) v).put (aS ops y) u)=(bZ ops L f (a.put (aS ops y) u)).put (aS ops x) v;rw[Act.put_comm a v u (h y (List.mem_cons_self ..)),DN f L (fun z hz=>h z (List.mem_cons_of_mem _ hz))]
theorem DL {f g:Nat→Option Value}:∀(L:List Nat),(∀y∈L,f y=g y)→∀a:Act,bZ ops L f a=bZ ops L g a
 | [],_,_=>rfl
 | y::L,h,a=>by
  rw[jr,jr,h y (List.mem_cons_self ..)];exact DL L (fun z hz=>h z (List.mem_cons_of_mem _ hz)) _
theorem DR {x:Nat} {v:Value} {f:Nat→Option Value}:∀(L:List Nat),x∈L→L.Pairwise (yP ops)→L.Nodup→f x=none→∀a:Act,bZ ops L (fH f x v) a=(bZ ops L f a).put (aS ops x) v
 | [],h,_,_,_,_=>by cases h
 | y::L,h,hp,hn,hx,a=>by
  obtain⟨p1,p2⟩:=List.pairwise_cons.1 hp;obtain⟨n1,n2⟩:=List.nodup_cons.1 hn;rw[jr,jr]
  by_cases e:x=y
  ·subst e
   rw[cZ,hx];show bZ ops L (fH f x v) (a.put (aS ops x) v)=(bZ ops L f a).put (aS ops x) v;rw[DL L (g:=f) (fun z hz=>aK (x:=x) (v:=v) (fun e=>n1 (by rw[←e];exact hz))),DN f L p1]
  ·rw[aK (Ne.symm e)]
   exact DR L ((List.mem_cons.1 h).resolve_left e) p2 n2 hx _
theorem Lr (a:Act) (d:Option Tmp) (v:Value):(a.put d v).tmps.size=a.tmps.size:=by
 cases d with
 | none=>rfl
 | some d=>simp[Act.put]
theorem EN {a b:Act} {t:Tmp} {v:Value} (h:a.tmps.size=b.tmps.size):(a.put (some t) v).eval (.tmp t)=(b.put (some t) v).eval (.tmp t):=by
 simp[Act.put,Act.eval,Array.getElem?_setIfInBounds,h]
theorem mW {f:Nat→Option Value} {t:Tmp} (keep:Nat→Bool):∀(L:List Nat) (a b:Act),a.tmps.size=b.tmps.size→a.eval (.tmp t)=b.eval (.tmp t)→(∀y∈L,keep y=false→aS ops y≠some t)→(bZ ops L f a).eval (.tmp t)=(bZ ops (L.filter keep) f b).eval (.tmp t)
 | [],_,_,_,h,_=>h
 | y::L,a,b,hs,h,hL=>by
  have hL':=fun z hz=>hL z (List.mem_cons_of_mem _ hz)
  rw[jr,List.filter_cons]
  by_cases hk:keep y=true
  ·rw[if_pos hk,jr]
   cases hf:f y with
   | none=>exact mW keep L _ _ hs h hL'
   | some v=>
    refine mW keep L _ _ (by simp only[Lr,hs]) ?_ hL'
    by_cases hd:aS ops y=some t
    ·simp only[hd];exact EN hs
    ·simp only
     rw[Act.eval_put fun d hd' e=>hd (by rw[hd'];cases e;rfl),Act.eval_put fun d hd' e=>hd (by rw[hd'];cases e;rfl)];exact h
  ·rw[if_neg hk]
   have hk':keep y=false:=by simpa using hk
   have hd:=hL y (List.mem_cons_self ..) hk';cases hf:f y with
   | none=>exact mW keep L _ _ hs h hL'
   | some v=>
    refine mW keep L _ _ (by simp only[Lr,hs]) ?_ hL';simp only;rw[Act.eval_put fun d hd' e=>hd (by rw[hd'];cases e;rfl)];exact h
def rZ (P:Program) (o:Oper) (a:Act) (w:World) (Post:Value→World→Prop):Prop:=
 (∃v w',(execOp a.eval o).run P w=.ok (.value v) w'∧Post v w') ∨
 (∃f args w1,(execOp a.eval o).run P w=.ok (.enter f args) w1∧Calls P f args w1 fun e w'=>∃v,e=.returned v∧Post v w')
theorem rZ.go {i:Nat} {o:Oper} {a:Act} {w:World} {Post:Value→World→Prop} (ho:ops[i]?=some o) (hg:o.guard=none) (h:rZ P o a w Post) {K:Act→World→Prop}
 (hK:∀v w',Post v w'→K (a.put o.dst v) w'):Go.wpOp P ops Q i K a w:=by
 unfold Go.wpOp;have hw:Region.wanted o (yielded ops a.tmps)=true:=by unfold Region.wanted;rw[hg]
 simp only[ho,hw,if_true];refine .inl ?_;unfold Oper.wp;rcases h with ⟨v,w',h1,h2⟩|⟨f,args,w1,h1,h2⟩
 ·rw[h1];exact hK v w' h2
 ·rw[h1]
  refine Calls.mono h2 ?_;rintro e w' ⟨v,rfl,h3⟩;exact hK v w' h3
def dagB (ops:Array Oper) (E0:List Nat) (D:Nat→List Nat):Bool:=
 E0.all fun x=>(match ops[x]? with
  | none=>false
  | some o=>o.guard.isNone&&(match o.op with|.select ..=>false|_=>true)&&E0.all fun y=>(D x).contains y||(match aS ops y with|some t=>!(o.looksAt ops).contains t|none=>true)) &&
  (D x).all fun d=>E0.contains d&&((Region.before ops).getD x 0).testBit d
def FH (ops:Array Oper):List Nat→Bool
 | []=>true
 | x::L=>(L.all fun y=>match aS ops x with|some d=>aS ops y !=some d|none=>true)&&!L.contains x&&FH ops L
theorem BX:∀(L:List Nat),FH ops L=true→L.Pairwise (yP ops)∧L.Nodup
 | [],_=>⟨.nil,.nil⟩
 | x::L,h=>by
  simp only[FH,Bool.and_eq_true,List.all_eq_true,Bool.not_eq_true'] at h;obtain⟨⟨h1,h2⟩,h3⟩:=h;obtain⟨i1,i2⟩:=BX L h3;refine⟨List.pairwise_cons.2 ⟨fun y hy d hd=>?_,i1⟩,List.nodup_cons.2 ⟨fun hm=>?_,i2⟩⟩
  ·have:=h1 y hy
   rw[hd] at this;simpa using this
  ·simp[hm] at h2
theorem OY {a0:Act} {b:Bool} {K:Act→World→Prop} (E0:List Nat) (D:Nat→List Nat) (T:(Nat→Option Value)→aA)
 (hB:dagB ops E0 D=true) (hdst:FH ops E0=true) (hS:b=true→∀f w,Sat W w (T f)→S w)
 (hop:∀x∈E0,∀(f:Nat→Option Value) (w:World) (o:Oper),ops[x]?=some o→f x=none→(∀d∈D x,(f d).isSome=true)→(∀y∈E0,(f y).isSome=true→∀d∈D y,(f d).isSome=true)→Sat W w (T f) →
  rZ P o (bZ ops (E0.filter fun y=>(D x).contains y) f a0) w (fun v w'=>Sat W w' (T (fH f x v))))
 (hfin:∀(f:Nat→Option Value) (w:World),(∀x∈E0,(f x).isSome=true)→Sat W w (T f)→K (bZ ops E0 f a0) w):
 ∀(n:Nat) (E:List Nat) (f:Nat→Option Value) (w:World),E.length=n→E.Nodup→(∀x,x∈E↔x∈E0∧f x=none)→(∀y∈E0,(f y).isSome=true→∀d∈D y,(f d).isSome=true)→Sat W w (T f) →
  oD P ops Q S b n (E.map fun x=>(x,[])) K (bZ ops E0 f a0) w:=by
 obtain⟨hpw,hnd⟩:=BX E0 hdst;have hB':=List.all_eq_true.1 hB;intro n
 induction n with
 | zero=>
  intro E f w hl _ hE _ hT;have he:=List.eq_nil_of_length_eq_zero hl;subst he;refine hfin f w (fun x hx=>?_) hT;cases hf:f x with
  | some v=>rfl
  | none=>have:=(hE x).2 ⟨hx,hf⟩;cases this
 | succ n ih=>
  intro E f w hl hn hE hcl hT;rintro⟨x,js⟩ hxm wF;obtain⟨x',hx',e⟩:=List.mem_map.1 hxm;cases e;obtain⟨hx0,hfx⟩:=(hE x).1 hx';have hb:=hB' x hx0;simp only[Bool.and_eq_true,List.all_eq_true] at hb;obtain⟨hb1,hb2⟩:=hb;cases ho:ops[x]? with
  | none=>rw[ho] at hb1;cases hb1
  | some o=>
   rw[ho] at hb1;simp only[Bool.and_eq_true,List.all_eq_true,Bool.or_eq_true] at hb1;obtain⟨⟨hg,hs⟩,hlook⟩:=hb1;have hg':o.guard=none:=by simpa using hg
   have hs':∀cs b,o.op≠.select cs b:=fun cs b e=>by rw[e] at hs;cases hs
   have fF:∀d∈D x,(f d).isSome=true:=fun d hd=>by
    have h1:=hb2 d hd;simp only[List.contains_iff_mem] at h1;cases hf:f d with
    | some v=>rfl
    | none=>
     have hdE:=(hE d).2 ⟨h1.1,hf⟩;have:=List.all_eq_true.1 wF (d,[]) (List.mem_map.2 ⟨d,hdE,rfl⟩);simp only[h1.2] at this;cases this
   have hd1:=hop x hx0 f w o ho hfx fF hcl hT;have hex:execOp (bZ ops E0 f a0).eval o=execOp (bZ ops (E0.filter fun y=>(D x).contains y) f a0).eval o:=by
    refine execOp_congr o hs' fun z hz=>?_
    cases z with
    | tmp t=>
     refine mW _ E0 a0 a0 rfl rfl fun y hy hk hdt=>?_
     have:=hlook y hy;rw[hk,hdt] at this;simp only[Bool.false_eq_true,false_or,Bool.not_eq_true',List.contains_eq_mem,decide_eq_false_iff_not] at this;exact this (List.mem_append_left _ (List.mem_filterMap.2 ⟨.tmp t,by simpa using hz,rfl⟩))
    | _=>rfl
   have hd2:rZ P o (bZ ops E0 f a0) w (fun v w'=>Sat W w' (T (fH f x v))):=by
    unfold rZ at hd1 ⊢;rw[hex];exact hd1
   refine hd2.go ho hg' fun v w' hT'=>⟨fun hb=>hS hb _ w' hT',?_⟩
   show oD P ops Q S b n _ K _ w';have hdo:o.dst=aS ops x:=by unfold aS;rw[ho];rfl
   rw[hdo,←DR E0 hx0 hpw hnd hfx];have hel:((E.map fun x=>(x,([]:List Nat))).erase (x,[]))=(E.erase x).map fun x=>(x,([]:List Nat)):=by
    clear hl hn hE hxm wF hx'
    induction E with
    | nil=>rfl
    | cons y E ihE=>
     rw[List.map_cons,List.erase_cons,List.erase_cons]
     by_cases e:y=x
     ·subst e;simp
     ·have e1:(y==x)=false:=by simpa using e
      have e2:((y,([]:List Nat))==(x,[]))=false:=by simp[e]
      rw[e1,e2];simp only[Bool.false_eq_true,if_false,List.map_cons,ihE]
   rw[hel];refine ih (E.erase x) (fH f x v) w' (by rw[List.length_erase_of_mem hx',hl];rfl) (hn.erase x) (fun y=>?_) (fun y hy hys d hd=>?_) hT'
   ·rw[hn.mem_erase_iff,hE]
    by_cases e:y=x
    ·subst e;simp[cZ]
    ·rw[aK e];simp[e]
   ·by_cases e:d=x
    ·subst e;rw[cZ];rfl
    ·rw[aK e]
     by_cases e2:y=x
     ·subst e2;exact fF d hd
     ·rw[aK e2] at hys
      exact hcl y hy hys d hd
end
end PA
namespace PA
open Go Go.RowKit
section
variable {P:Program} {ops:Array Oper} {Q:Exit→Act→World→Prop}
def KH (ops:Array Oper) (bf:Array Nat) (l:List kJ):Bool:=
 Le ops bf l&&TI ops (eu l)&&Du ops&&nV ops bf&&(eu l).length==ops.size&&nodupB ((eu l).map (·.1))&&((eu l).map (·.1)).all (fun i=>decide (i<ops.size))&&(List.range ops.size).all (fun i=>((eu l).map (·.1)).contains i) &&
 ops.all (fun o=>o.after.all fun e=>!Region.binds .any e||decide (e.on<ops.size))&&yS ops bf l
theorem wR {id:Nat} {a:Act} {w:World} (hm:P.follows .mixedOrders=true) (S:World→Prop) (l:List kJ) (bf:Array Nat) (hbf:Region.before ops=bf) (hok:KH ops bf l=true)
 (h:nC P ops (NoPanic Q) S l (Q .normal) a w.drew):(Code.region id ops true).wp P Q a w:=
 eX hm S l (by unfold xI;rw[hbf];exact hok) h
variable {S:World→Prop} {W:World}
def Jk (P:Program) (o:Oper) (a:Act) (w:World) (Post:Value→World→Prop):Prop:=rZ P o a w Post∨∃w',(execOp a.eval o).run P w=.ok .skip w'∧Post undef w'
theorem Jk.go {i:Nat} {o:Oper} {a:Act} {w:World} {Post:Value→World→Prop} (ho:ops[i]?=some o) (hg:o.guard=none) (h:Jk P o a w Post) {K:Act→World→Prop}
 (hK:∀v w',Post v w'→K (a.put o.dst v) w'):Go.wpOp P ops Q i K a w:=by
 rcases h with h|⟨w',h1,h2⟩
 ·exact h.go ho hg hK
 ·unfold Go.wpOp
  have hw:Region.wanted o (yielded ops a.tmps)=true:=by unfold Region.wanted;rw[hg]
  simp only[ho,hw,if_true];refine .inl ?_;unfold Oper.wp;rw[h1];exact hK undef w' h2
theorem jV {a0:Act} {b:Bool} {K:Act→World→Prop} (E0:List Nat) (D:Nat→List Nat) (T:(Nat→Option Value)→aA)
 (hB:dagB ops E0 D=true) (hdst:FH ops E0=true) (hS:b=true→∀f w,Sat W w (T f)→S w)
 (hop:∀x∈E0,∀(f:Nat→Option Value) (w:World) (o:Oper),ops[x]?=some o→f x=none→(∀d∈D x,(f d).isSome=true)→(∀y∈E0,(f y).isSome=true→∀d∈D y,(f d).isSome=true)→Sat W w (T f) →
  Jk P o (bZ ops (E0.filter fun y=>(D x).contains y) f a0) w (fun v w'=>Sat W w' (T (fH f x v))))
 (hfin:∀(f:Nat→Option Value) (w:World),(∀x∈E0,(f x).isSome=true)→Sat W w (T f)→K (bZ ops E0 f a0) w):
 ∀(n:Nat) (E:List Nat) (f:Nat→Option Value) (w:World),E.length=n→E.Nodup→(∀x,x∈E↔x∈E0∧f x=none)→(∀y∈E0,(f y).isSome=true→∀d∈D y,(f d).isSome=true)→Sat W w (T f) →
  oD P ops Q S b n (E.map fun x=>(x,[])) K (bZ ops E0 f a0) w:=by
 obtain⟨hpw,hnd⟩:=BX E0 hdst;have hB':=List.all_eq_true.1 hB;intro n
 induction n with
 | zero=>
  intro E f w hl _ hE _ hT;have he:=List.eq_nil_of_length_eq_zero hl;subst he;refine hfin f w (fun x hx=>?_) hT;cases hf:f x with
  | some v=>rfl
  | none=>have:=(hE x).2 ⟨hx,hf⟩;cases this
 | succ n ih=>
  intro E f w hl hn hE hcl hT;rintro⟨x,js⟩ hxm wF;obtain⟨x',hx',e⟩:=List.mem_map.1 hxm;cases e;obtain⟨hx0,hfx⟩:=(hE x).1 hx';have hb:=hB' x hx0;simp only[Bool.and_eq_true,List.all_eq_true] at hb;obtain⟨hb1,hb2⟩:=hb;cases ho:ops[x]? with
  | none=>rw[ho] at hb1;cases hb1
  | some o=>
   rw[ho] at hb1;simp only[Bool.and_eq_true,List.all_eq_true,Bool.or_eq_true] at hb1;obtain⟨⟨hg,hs⟩,hlook⟩:=hb1;have hg':o.guard=none:=by simpa using hg
   have hs':∀cs b,o.op≠.select cs b:=fun cs b e=>by rw[e] at hs;cases hs
   have fF:∀d∈D x,(f d).isSome=true:=fun d hd=>by
    have h1:=hb2 d hd;simp only[List.contains_iff_mem] at h1;cases hf:f d with
    | some v=>rfl
    | none=>
     have hdE:=(hE d).2 ⟨h1.1,hf⟩;have:=List.all_eq_true.1 wF (d,[]) (List.mem_map.2 ⟨d,hdE,rfl⟩);simp only[h1.2] at this;cases this
   have hd1:=hop x hx0 f w o ho hfx fF hcl hT;have hex:execOp (bZ ops E0 f a0).eval o=execOp (bZ ops (E0.filter fun y=>(D x).contains y) f a0).eval o:=by
    refine execOp_congr o hs' fun z hz=>?_
    cases z with
    | tmp t=>
     refine mW _ E0 a0 a0 rfl rfl fun y hy hk hdt=>?_
     have:=hlook y hy;rw[hk,hdt] at this;simp only[Bool.false_eq_true,false_or,Bool.not_eq_true',List.contains_eq_mem,decide_eq_false_iff_not] at this;exact this (List.mem_append_left _ (List.mem_filterMap.2 ⟨.tmp t,by simpa using hz,rfl⟩))
    | _=>rfl
   have hd2:Jk P o (bZ ops E0 f a0) w (fun v w'=>Sat W w' (T (fH f x v))):=by
    unfold Jk rZ at hd1 ⊢;rw[hex];exact hd1
   refine hd2.go ho hg' fun v w' hT'=>⟨fun hb=>hS hb _ w' hT',?_⟩
   show oD P ops Q S b n _ K _ w';have hdo:o.dst=aS ops x:=by unfold aS;rw[ho];rfl
   rw[hdo,←DR E0 hx0 hpw hnd hfx];have hel:((E.map fun x=>(x,([]:List Nat))).erase (x,[]))=(E.erase x).map fun x=>(x,([]:List Nat)):=by
    clear hl hn hE hxm wF hx'
    induction E with
    | nil=>rfl
    | cons y E ihE=>
     rw[List.map_cons,List.erase_cons,List.erase_cons]
     by_cases e:y=x
     ·subst e;simp
     ·have e1:(y==x)=false:=by simpa using e
      have e2:((y,([]:List Nat))==(x,[]))=false:=by simp[e]
      rw[e1,e2];simp only[Bool.false_eq_true,if_false,List.map_cons,ihE]
   rw[hel];refine ih (E.erase x) (fH f x v) w' (by rw[List.length_erase_of_mem hx',hl];rfl) (hn.erase x) (fun y=>?_) (fun y hy hys d hd=>?_) hT'
   ·rw[hn.mem_erase_iff,hE]
    by_cases e:y=x
    ·subst e;simp[cZ]
    ·rw[aK e];simp[e]
   ·by_cases e:d=x
    ·subst e;rw[cZ];rfl
    ·rw[aK e]
     by_cases e2:y=x
     ·subst e2;exact fF d hd
     ·rw[aK e2] at hys
      exact hcl y hy hys d hd
end
end PA
namespace PA
open Go Go.RowKit
section
variable {W w:World} {A:aA} {t g N:Nat} {f:Nat→Rt}
end
end PA
namespace PA
open Go Go.Proofs.YthfmaclnccdcbaaGreatDoor
def dA (l:List Int) (i:Nat) (n:Int):Int:=match l[i]? with|some x=>iy x n|none=>0
theorem aZ (l:List Int) (i:Nat) (n:Int) (hn:0<n):0≤dA l i n∧dA l i n<n:=by
 unfold dA;split
 ·exact nJ _ _ hn
 ·omega
end PA
namespace Go.Proofs.YthfmaclnccdcbaaGreatDoor
open Go.RowKit PA
def Qw (I:Mem) (va:Value) (l:List Int):Prop:=(∃a c,va=.slice a l.length c)∧(qY.slice 1).rel I [va] l∧∀z∈l,Qu z
theorem Qw.mono {I J:Mem} {va:Value} {l:List Int} (hl:Mem.le I J) (h:Qw I va l):Qw J va l:=⟨h.1,(qY.slice 1).mono hl h.2.1,h.2.2⟩
def bF (B:Nat) (va:Value) (pos day:Int) (fv:Value):aA:=blk B (.cells #[va,.int .i64 pos,.int .i64 day,fv] 86 (0,0))
theorem Ry {W w:World} {A:aA} {I:Mem} (va:Value) (l:List Int) (i:Nat) (n:Int) (hn0:0<n) (hn1:n≤1099511627776) (hi:i≤1000000) (hv:Qw I va l) (h:Sat W w (sep (kn I) A)):
 Calls Tryz.prog 102 #[va,.int .i64 i,.int .i64 n] w fun e w'=>e=.returned (.int .i64 (dA l i n))∧w=w':=by
 obtain⟨⟨a,c,rfl⟩,hv,hl⟩:=hv;obtain⟨a',c',e,hsw,hc⟩:=qm.1 hv;simp only[Value.slice.injEq] at e;obtain⟨rfl,-,rfl⟩:=e;obtain⟨r,hr⟩:=ay (dA l i n);rw[←hr];unfold dA at hr;have HR:=ah hr;have hlen:(l.length:Int)≤9223372036854775807:=by
  have h1:=hsw.1;have h2:=hsw.2.1;unfold maxLen at h2;omega
 have hiI:(i:Int)≤1000000:=by omega
 by_cases hlt:i<l.length
 ·have hltz:¬(l.length:Int)≤(i:Int):=by omega
  have abG:(i:Int)<(l.length:Int):=by omega
  obtain⟨b,o,rfl,hcell⟩:=jk hc (fun e=>by have:=congrArg List.length e;simp at this;rw[this] at hlt;simp at hlt);obtain⟨x,hx⟩:=ay (l[i]);have c0:=hcell w h.ext i (PA.iv x) (by rw[List.getElem?_map,List.getElem?_eq_getElem hlt,hx];rfl);unfold PA.iv at c0;have qU:=hl x (by rw[hx];exact List.getElem_mem hlt);have HX:Hid (r=iy x n):=ah (by rw[HR.out,List.getElem?_eq_getElem hlt,hx]);have HA:=ah (oM x n w qU.1 qU.2 (by omega) (by omega));obtain⟨ll,hll⟩:=ay (l.length);rw[←hll] at hlen hltz abG ⊢;clear hv hc hcell hl hr hx hll h hsw qU HR
  go_enter Tryz.func102,Tryz.ntmps102
  go_wp2_with fail
  refine HA.out.mono ?_;rintro e w2 ⟨rfl,rfl⟩
  go_wp2
  go_ret
  exact⟨Qc HX.out.symm,rfl⟩
 ·have hltz:(l.length:Int)≤(i:Int):=by omega
  have HX:Hid (r=0):=ah (by rw[HR.out,List.getElem?_eq_none (by omega)]);obtain⟨ll,hll⟩:=ay (l.length);rw[←hll] at hlen hltz ⊢;clear hv hc hl hr hll h hsw HR
  go_enter Tryz.func102,Tryz.ntmps102
  go_wp2
  go_ret
  exact⟨Qc HX.out.symm,rfl⟩
theorem aQ {W w:World} {A:aA} {I:Mem} {B:Nat} {day:Int} {fv:Value} (va:Value) (l:List Int) (i:Nat) (n:Int) (hn0:0<n) (hn1:n≤1099511627776) (hi:i<1000000) (hv:Qw I va l) (h:Sat W w (sep (bF B va i day fv) (sep (kn I) A))):
 Calls Tryz.prog 57 #[.pointer (some ⟨B,0,none⟩),.int .i64 n] w fun e w'=>e=.returned (.int .i64 (dA l i n))∧Sat W w' (sep (bF B va ((i+1:Nat):Int) day fv) (sep (kn I) A)):=by
 unfold bF at h ⊢;obtain⟨r,hr⟩:=ay (dA l i n);rw[←hr];have c1:w.cell? ⟨B,1,none⟩=some (.int .i64 i):=h.cell 1;have f1:w.frozen? ⟨B,1,none⟩=false:=h.aG 1;obtain⟨w1,hw1⟩:=ay (w.setCell ⟨B,1,none⟩ (.int .i64 ((i+1:Nat):Int)));have h1:=h.setCell 1 (.int .i64 ((i+1:Nat):Int));rw[←hw1] at h1;have h1d:Sat W w1.drew (sep (blk B (.cells #[va,.int .i64 ((i+1:Nat):Int),.int .i64 day,fv] 86 (0,0))) (sep (kn I) A)):=h1.drew;have hx:(i:Int)+1=((i+1:Nat):Int):=by omega
 obtain⟨i1,hi1⟩:=ay (((i+1:Nat):Int));rw[←hi1] at hw1 hx h1d ⊢;have hiI:(i:Int)<1000000:=by omega
 have d0:w1.drew.cell? ⟨B,0,none⟩=some va:=h1d.cell 0;have d1:w1.drew.cell? ⟨B,1,none⟩=some (.int .i64 i1):=h1d.cell 1;have hx2:IntKind.i64.wrap (i1-1)=(i:Int):=by
  have:i1-1=(i:Int):=by omega
  rw[this];unfold IntKind.wrap;simp[IntKind.bits,IntKind.signed];omega
 have HP:=ah (Ry va l i n hn0 hn1 (by omega) hv h1d.p1);have HD:=ah h1d;have HW1:=ah hw1;rw[←hr] at HP;clear hr h h1 h1d hi1 hw1
 go_enter Tryz.func57,Tryz.ntmps57
 go_upto_region 2 with (fail)
 rw[←HW1.out];refine aJ rfl (fun _=>True) [(0,.p),(1,.p),(2,.p),(3,.t),(4,.p),(5,.p),(6,.p),(7,.t),(8,.p),(9,.p),(10,.e false),(11,.p)] (by kernel_rfl) ?_;have hS0:True:=trivial;refine dh ?_
 (refine kT rfl rfl (fun K hK=>?_);go_simp)
 refine HP.out.mono ?_;rintro e w2 ⟨rfl,rfl⟩;refine fA ?_;clear hK K;refine dh ?_;refine fC ?_
 go_wp2
 go_ret
 exact⟨rfl,HD.out⟩
end Go.Proofs.YthfmaclnccdcbaaGreatDoor
namespace PA
open Go Go.RowKit
section
variable {P:Program} {ops:Array Oper} {Q:Exit→Act→World→Prop} {S:World→Prop}
theorem LM {n:Nat} {row:String} {args:Array Value} {w:World} {R:Value→World→Prop} (h:Rows P row args w R):RowsIn Fence.wide n P row args w R:=
 fun c cs _=>let ⟨v,w',r,s⟩:=h c cs;⟨v,w',r,stepsIn_wide.2 s⟩
theorem Ja {l n i:Nat} {K:Act→World→Prop} {a:Act} {w:World} (hno:¬LetsOut Q) (hnd:∀o,ops[i]?=some o→∀c,o.op≠.defer c) (h:wpOp P ops Q i K a w):wpOpIn (Fence.wide.inRound l) n P ops Q i K a w:=by
 unfold wpOp at h;unfold wpOpIn;cases ho:ops[i]? with
 | none=>simpa[ho] using h
 | some o=>
  simp only[ho] at h ⊢;split
  ·rename_i hw
   simp only[hw,if_true] at h;rcases h with h|⟨-,h⟩
   ·refine⟨fun _ _=>trivial,?_⟩
    rw[show (Fence.wide.inRound l).round=some l from rfl,Oper.semAt_some l _ _ (hnd o ho)];unfold Oper.wp at h;generalize (execOp a.eval o).run P w=r at *;cases r with
    | ok x w'=>
     cases x<;>simp only[Oper.upon,Oper.uponIn] at h ⊢
     case value v=>exact h
     case skip=>exact h
     case defer d=>exact h
     case enter f args=>exact⟨fun hd=>(by simp[Fence.inRound,Fence.wide] at hd),callsIn_wide.2 h⟩
     case row row args=>exact⟨fun hd=>(by simp[Fence.inRound,Fence.wide] at hd),LM h⟩
    | halt x w'=>cases x<;>simp only[Oper.upon,Oper.uponIn] at h ⊢;exact h
   ·exact absurd h hno
  ·rename_i hw
   simp only[hw] at h;exact⟨fun _ _=>trivial,h⟩
theorem sG {l n:Nat} {md:Region.Mode} (hno:¬LetsOut Q) (hnd:∀(i:Nat) o,ops[i]?=some o→∀c,o.op≠.defer c):∀(fuel:Nat) (listed:Array Bool) (a:Act) (w:World),wpAny P md ops Q fuel listed a w→wpAnyIn (Fence.wide.inRound l) n P md ops Q fuel listed a w
 | 0,_,_,_,h=>h
 | fuel+1,_,_,_,h=>⟨h.1,fun i hi=>Ja hno (hnd i) (wpOp_mono (fun a w h=>sG hno hnd fuel _ a w h) (h.2 i hi))⟩
theorem rP (h:¬LetsOut Q):¬LetsOut (NoPanic Q):=fun ⟨a,w,hq⟩=>h ⟨a,w,hq⟩
def PY (ops:Array Oper):Bool:=ops.all fun o=>match o.op with|.defer ..=>false|_=>true
theorem Dt (h:PY ops=true):∀(i:Nat) o,ops[i]?=some o→∀c,o.op≠.defer c:=by
 intro i o ho c hc;simp only[PY,Array.all_eq_true] at h;obtain⟨hi,rfl⟩:=Array.getElem?_eq_some_iff.1 ho;have:=h i hi;rw[hc] at this;cases this
theorem AL {l n id:Nat} {a:Act} {w:World} (hm:P.follows .mixedOrders=true) (S:World→Prop) (L:List (Nat×Kd)) (hok:(AV ops (Region.before ops) L&&PY ops)=true) (hno:¬LetsOut Q)
 (h:wpC P ops (NoPanic Q) S L a w.drew):(Code.region id ops true).wpIn (Fence.wide.inRound l) n P Q a w:=by
 rw[Bool.and_eq_true] at hok;obtain⟨hok,hnd⟩:=hok;simp only[AV,Bool.and_eq_true] at hok;obtain⟨⟨⟨⟨⟨⟨⟨h1,h2⟩,h3⟩,h4⟩,h7⟩,h8⟩,h5⟩,h6⟩:=hok;have hlen:L.length=ops.size:=by simpa using h4
 have hall:∀i,i<ops.size→i∈L.map (·.1):=fun i hi=>by
  simp only[List.all_eq_true,List.mem_range] at h5;simpa using h5 i hi
 have hback:∀i,i∈L.map (·.1)→i<ops.size:=fun i hi=>by
  rw[List.all_eq_true] at h8;simpa using h8 i hi
 have hp:=wI L h1;refine wpIn_mono (wpIn_region_any hm (sG (rP hno) (Dt hnd) ops.size _ a _ ?_)) NoPanic.imp;refine Jw (bf:=Region.before ops) (S:=S) ?_ ?_ h3 ?_ ops.size L _ hlen ?_ a w.drew h
 ·intro j o cs b ho hsel
  simp only[Du,Array.all_eq_true] at h2;obtain⟨hj,rfl⟩:=Array.getElem?_eq_some_iff.1 ho;have:=h2 j hj;rw[hsel] at this;cases this
 ·intro c a d v w hh;exact hh
 ·intro j o ho e he hb
  obtain⟨hj,rfl⟩:=Array.getElem?_eq_some_iff.1 ho;rw[Array.all_eq_true] at h6;have:=h6 j hj;rw[Array.all_eq_true] at this;obtain⟨k,hk,rfl⟩:=Array.mem_iff_getElem.1 he;have:=this k hk;simpa[hb] using this
 ·refine⟨by simp,fun i=>⟨fun hi=>?_,fun hi=>hall i hi.1⟩,nU _ h7,hp.1,hp.2,fun d r _ hd=>?_⟩
  ·have:=hback i hi
   exact⟨this,by simp[Array.getD,this]⟩
  ·exfalso
   simp only[Array.getD,Array.size_replicate] at hd;split at hd<;>simp at hd
end
end PA
namespace PA
open Go Go.RowKit
section
variable {P:Program} {ops:Array Oper} {Q:Exit→Act→World→Prop} {S:World→Prop}
theorem yu {l n id:Nat} {a:Act} {w:World} (hm:P.follows .mixedOrders=true) (S:World→Prop) (L:List kJ) (hok:(xI ops L&&PY ops)=true) (hno:¬LetsOut Q)
 (h:nC P ops (NoPanic Q) S L (Q .normal) a w.drew):(Code.region id ops true).wpIn (Fence.wide.inRound l) n P Q a w:=by
 rw[Bool.and_eq_true] at hok;obtain⟨hok,hnd⟩:=hok;simp only[xI,Bool.and_eq_true] at hok;obtain⟨⟨⟨⟨⟨⟨⟨⟨⟨h1,h0⟩,h2⟩,h3⟩,h4⟩,h7⟩,h8⟩,h5⟩,h6⟩,h9⟩:=hok;have hlen:(eu L).length=ops.size:=by simpa using h4
 have hall:∀i,i<ops.size→i∈(eu L).map (·.1):=fun i hi=>by
  simp only[List.all_eq_true,List.mem_range] at h5;simpa using h5 i hi
 have hback:∀i,i∈(eu L).map (·.1)→i<ops.size:=fun i hi=>by
  rw[List.all_eq_true] at h8;simpa using h8 i hi
 have hd:=Hg _ h0;refine wpIn_mono (wpIn_region_any hm (sG (rP hno) (Dt hnd) ops.size _ a _ ?_)) NoPanic.imp;refine Fv (S:=S) ?_ ?_ h3 ?_ ops.size L _ hlen ?_ a w.drew h
 ·intro j o cs b ho hsel
  simp only[Du,Array.all_eq_true] at h2;obtain⟨hj,rfl⟩:=Array.getElem?_eq_some_iff.1 ho;have:=h2 j hj;rw[hsel] at this;cases this
 ·intro c a d v w hh;exact hh
 ·intro j o ho e he hb
  obtain⟨hj,rfl⟩:=Array.getElem?_eq_some_iff.1 ho;rw[Array.all_eq_true] at h6;have:=h6 j hj;rw[Array.all_eq_true] at this;obtain⟨k,hk,rfl⟩:=Array.mem_iff_getElem.1 he;have:=this k hk;simpa[hb] using this
 ·refine⟨by simp,fun i=>⟨fun hi=>?_,fun hi=>hall i hi.1⟩,nU _ h7,DI L h1,hd.1,hd.2,uH L h9,fun d r _ hd=>?_⟩
  ·have:=hback i hi
   exact⟨this,by simp[Array.getD,this]⟩
  ·exfalso
   simp only[Array.getD,Array.size_replicate] at hd;split at hd<;>simp at hd
end
end PA
