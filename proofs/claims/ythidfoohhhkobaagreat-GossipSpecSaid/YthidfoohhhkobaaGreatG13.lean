import Derived.Test.YthidfoohhhkobaaGreatG11
import Derived.Test.YthidfoohhhkobaaGreatG12
namespace Go.Proofs.YthidfoohhhkobaaGreat
set_option linter.unusedVariables false
set_option linter.unusedSimpArgs false
open Go.RowKit
section
variable {P:Program} {B:Base} {T:Tab}
theorem wpAny_headsE {l:List Oper} {hd tail:List Nat} {iws:List Nat} {al:Nat→Nat} {W:(Nat→Bool)→Nat→Option Blk} {nb1:List (Nat×Blk)} {Q:Exit→Act→World→Prop} {tm0 tmF:List (Nat×V)} {st00 st0 nbF:List (Nat×Blk)} {nx:Nat} (hok:drawOkI l hd tail iws=true) (hrun:HRun P B l.toArray st00 nx tmF nbF (pickOps l (hd.filter (fun i=> !iws.contains i))) tm0 []) (hN:(l.all (opOk B.N))=true)
  (hWo:∀ d d' n,(∀ i∈iws,nx+al i=n→d i=d' i)→W d n=W d' n) (hW0:∀ n,W (fun _=>false) n=lkB nbF n) (hW1:∀ n,W (fun _=>true) n=lkB nb1 n) (hWd:∀ d n,W d n=none↔lkB nbF n=none) (hal:∀ i∈iws,∀ j∈iws,al i=al j→i=j) (hre:∀ i∈iws,reachB .any l.toArray l.length i (al i)=true)
  (hst0:∀ n,nx≤n→lkB st0 n=none) (hs0:∀ n b,lkB st00 n=some b→lkB st0 n=some b)
  (hwr:∀ iw∈iws,∀ ow,l[iw]? =some ow→∀ (tm:Nat→V) (σ:Nat→Option Blk) (fr:Nat→Prop) (E:Env) (a:Act),GamS P B σ fr E→GamT B tm E a→σ (nx+al iw)=lkB nbF (nx+al iw)→(∀ t∈ow.looksAt l.toArray,tm t=lkT tmF t)→
   Upon P (fun u w'=>∃ E',E'.w=w'∧GamS P B (fun n=>if n=nx+al iw then W (fun _=>true) n else σ n) fr E'∧Ext E E'∧E'.dp=E.dp) ((execOp a.eval ow).run P E.w))
  (hQ:∀ E a,Gam P B ⟨tmF,nb1++st0,nx+l.length⟩ E a→wpListIn (fen B.r) 0 P l.toArray Q ((pickOps l tail).map (·.2)) a E.w):
  ∀ (F:Nat) (listed:Array Bool) (E:Env) (a:Act),GInv .any l.toArray listed→(∀ t∈tail,listed.getD t false=false)→hd.countP (fun i=> !listed.getD i false)=F→
   GamS P B (fun n=>if nx≤n then (if listed.getD (n - nx) false=true then W (fun j=>listed.getD j false) n else none) else lkB st0 n) (fun n=>nx≤n∧(listed.getD (n - nx) false=true→lkB nbF n=none)) E→
   GamT B (fun t=>if ((pickOps l (hd.filter (fun i=> !iws.contains i))).any fun p=>p.2.dst==some t&&listed.getD p.1 false)=true then lkT tmF t else lkT tm0 t) E a→wpAnyIn (fen B.r) 0 P .any l.toArray Q (F+tail.length) listed a E.w:=by
 simp only [drawOkI,Bool.and_eq_true] at hok
 obtain ⟨⟨⟨⟨⟨⟨⟨⟨⟨⟨hsink,htl⟩,hpart⟩,hlt⟩,hnd⟩,hedge⟩,hincr⟩,hdep⟩,hseq⟩,_⟩,hwok⟩:=hok
 have hiwh:∀ i∈iws,i∈hd:=fun i hi=>by
  have:=List.all_eq_true.1 hwok i hi
  simp only [Bool.and_eq_true] at this
  simpa using this.1
 have hmN:∀ {j:Nat},j∈hd.filter (fun i=> !iws.contains i)↔j∈hd∧j ∉ iws:=fun {j}=>by simp [List.mem_filter]
 obtain ⟨f1,f2,_⟩:=hrun_facts _ _ _ hincr hrun
 have hnd':hd.Nodup:=by simpa using hnd
 have htl':∀ t∈tail,hd.contains t=false:=fun t ht=>by have:=List.all_eq_true.1 htl t ht;simpa using this
 intro F
 induction F with
 |zero=>
   intro listed E a inv hT hcnt hS hGT
   have hall:∀ i∈hd,listed.getD i false=true:=fun i hi=>by
    have:=List.countP_eq_zero.1 hcnt i hi
    simpa using this
   have hsz:listed.size=l.length:=by rw [inv.size];simp
   have hcan:listed=canonH l.length hd:=by
    refine Array.ext_getElem? fun i=>?_
    have hcs:=(foldl_canon hd (Array.replicate l.length false) i)
    have hcsz:(canonH l.length hd).size=l.length:=by unfold canonH;rw [hcs.1];simp
    by_cases hi:i < l.length
    ·have e1:listed[i]? =some (listed.getD i false):=by simp [Array.getD_eq_getD_getElem?,hsz,hi]
     have e2:(canonH l.length hd)[i]? =some ((canonH l.length hd).getD i false):=by simp [Array.getD_eq_getD_getElem?,hcsz,hi]
     rw [e1,e2]
     congr 1
     unfold canonH
     rw [hcs.2]
     rw [getD_replicate_false]
     simp only [Array.size_replicate,Bool.false_or]
     by_cases hh:hd.contains i=true
     ·rw [hh,hall i (by simpa using hh)];simp [hi]
     ·have:=List.all_eq_true.1 hpart i (List.mem_range.2 hi)
      simp only [Bool.or_eq_true] at this
      rcases this with h|h
      ·exact (hh h).elim
      ·rw [hT i (by simpa using h)];simp only [Bool.not_eq_true] at hh;rw [hh];rfl
    ·rw [Array.getElem?_eq_none (by omega),Array.getElem?_eq_none (by omega)]
   rw [Nat.zero_add]
   refine wpAnyIn_of_seqT tail listed a E.w (by rw [hcan];exact hseq) (hQ E a ⟨hS.congr (fun n=>?_) (fun n hn=>?_),⟨fun t=>?_,hGT.defers,hGT.size⟩⟩)
   ·
    have hWl:W (fun j=>listed.getD j false) n=lkB nb1 n:=(hWo _ _ n (fun i hi _=>hall i (hiwh i hi))).trans (hW1 n)
    have hap:lkB (nb1++st0) n=match lkB nb1 n with|some b=>some b|none=>lkB st0 n:=by
     generalize nb1=nb
     induction nb with
     |nil=>rfl
     |cons p nb ih=>
       obtain ⟨k,b⟩:=p
       simp only [List.cons_append,lkB]
       split
       ·rfl
       ·exact ih
    show lkB (nb1++st0) n=_
    rw [hap]
    by_cases hn:nx≤n
    ·rw [if_pos hn]
     by_cases hh:hd.contains (n - nx)=true
     ·rw [if_pos (hall _ (by simpa using hh)),hWl,hst0 n hn];cases lkB nb1 n<;>rfl
     ·have:lkB nbF n=none:=by
       rw [f2 n (fun p hp e=>hh ?_)];rfl
       have:=(hmN.1 (pickOps_mem.1 hp).1).1
       rw [e,Nat.add_sub_cancel_left];simpa using this
      rw [← hW1 n,(hWd _ n).2 this,(hWd _ n).2 this,hst0 n hn];simp
    ·rw [if_neg hn]
     have:lkB nbF n=none:=by
      rw [f2 n (fun p hp e=>by omega)];rfl
     rw [← hW1 n,(hWd _ n).2 this]
   ·have hn':nx+l.length≤n:=hn
    refine ⟨by omega,fun h=>?_⟩
    rw [show listed.getD (n - nx) false=false by
     simp [Array.getD_eq_getD_getElem?,Array.getElem?_eq_none (show listed.size≤n - nx by omega)]] at h
    cases h
   ·have:=hGT.tm t
    show RV E (lkT tmF t) _
    by_cases hw:((pickOps l (hd.filter (fun i=> !iws.contains i))).any fun p=>p.2.dst==some t&&listed.getD p.1 false)=true
    ·rw [if_pos hw] at this;exact this
    ·rw [if_neg hw] at this
     rw [f1 t (fun p hp e=>hw (List.any_eq_true.2 ⟨p,hp,by simp [e,hall p.1 (hmN.1 (pickOps_mem.1 hp).1).1]⟩))]
     exact this
 |succ F ih=>
   intro listed E a inv hT hcnt hS hGT
   have hsz:listed.size=l.length:=by rw [inv.size];simp
   rw [show F+1+tail.length=(F+tail.length)+1 by omega]
   obtain ⟨k,hk,hku⟩:∃ k,k∈hd∧listed.getD k false=false:=by
    have:0 < hd.countP (fun i=> !listed.getD i false):=by omega
    obtain ⟨k,h1,h2⟩:=List.countP_pos_iff.1 this
    exact ⟨k,h1,by simpa using h2⟩
   have hkl:k < l.length:=by have:=List.all_eq_true.1 hlt k hk;simpa using this
   have hku':listed.getD k true=false:=getD_in (by omega) hku
   refine ⟨fun hr=>?_,fun i hi=>?_⟩
   ·
    obtain ⟨m,⟨hm1,hm2⟩,hm3⟩:=exists_min (p:=fun m=>m < l.length∧listed.getD m false=false) ⟨k,hkl,hku⟩
    have:m∈Region.ready .any l.toArray listed:=by
     refine mem_ready.2 ⟨getD_in (by omega) hm2,l[m],by simp [hm1],fun e he hb=>?_⟩
     have h1:=List.all_eq_true.1 hedge m (List.mem_range.2 hm1)
     rw [List.getElem?_eq_getElem hm1] at h1
     have h2:=List.all_eq_true.1 h1 e (by simpa using he)
     rw [hb] at h2
     simp at h2
     cases hc:listed.getD e.on false with
     |true=>rfl
     |false=>exact (hm3 e.on h2 ⟨by omega,hc⟩).elim
    rw [hr] at this
    cases this
   ·have hih:=sink_spec hsink inv (i:=k) (by simpa using hkl) (by simpa using hk) hku' hi
    have hi':i∈hd:=by simpa using hih
    obtain ⟨hiun,o,ho,hafter⟩:=mem_ready.1 hi
    have hol:l[i]? =some o:=by simpa using ho
    have hil:i < l.length:=(List.getElem?_eq_some_iff.1 hol).1
    have hiun':=getD_both hiun
    have hopk:=List.all_eq_true.1 hN o (List.mem_of_getElem? hol)
    have inv2:=inv.set hi
    have hself:(listed.setIfInBounds i true).getD i false=true:=by simp [hsz,hil]
    have hoth:∀ j,j≠i→(listed.setIfInBounds i true).getD j false=listed.getD j false:=fun j hj=>getD_set_ne false (Ne.symm hj)
    have hT2:∀ t∈tail,(listed.setIfInBounds i true).getD t false=false:=fun t ht=>by
     rw [hoth t (fun e=>by have:=htl' t ht;rw [e] at this;rw [this] at hih;cases hih)];exact hT t ht
    have hcnt2:hd.countP (fun j=> !(listed.setIfInBounds i true).getD j false)=F:=by
     have:=countP_set hnd' hi' (f:=fun j=> !listed.getD j false) (g:=fun j=> !(listed.setIfInBounds i true).getD j false) (by simp [hiun']) (by simp [hself]) (fun j hj=>by rw [hoth j hj])
     omega
    by_cases hiw:i∈iws
    ·
     have hwok:=List.all_eq_true.1 hwok i hiw
     rw [hol] at hwok
     simp only [Bool.and_eq_true] at hwok
     obtain ⟨_,⟨hwd,hwg⟩,hwl⟩:=hwok
     have hwd':o.dst=none:=by simpa using hwd
     have hwg':o.guard=none:=by simpa using hwg
     have hag:∀ t∈o.looksAt l.toArray,(if ((pickOps l (hd.filter (fun j=> !iws.contains j))).any fun p=>p.2.dst==some t&&listed.getD p.1 false)=true then lkT tmF t else lkT tm0 t)=lkT tmF t:=fun t ht=>by
      by_cases hw:((pickOps l (hd.filter (fun j=> !iws.contains j))).any fun p=>p.2.dst==some t&&listed.getD p.1 false)=true
      ·rw [if_pos hw]
      ·rw [if_neg hw]
       refine (f1 t (fun q hq hqt=>hw (List.any_eq_true.2 ⟨q,hq,?_⟩))).symm
       have h1:=List.all_eq_true.1 (List.all_eq_true.1 hwl t ht) q hq
       simp only [Bool.or_eq_true,bne_iff_ne,ne_eq] at h1
       rcases h1 with h|h
       ·exact (h hqt).elim
       ·have:=reach_listed inv _ _ _ h (fun o' ho' e he hb=>by
         have:o'=o:=Option.some.inj (ho'.symm.trans ho)
         subst this
         exact hafter e he hb)
        simp [hqt,this]
     have hw:Region.wanted o (yielded l.toArray a.tmps)=true:=by simp [Region.wanted,hwg']
     have hlal:listed.getD (al i) false=true:=reach_listed inv _ _ _ (hre i hiw) (fun o' ho' e he hb=>by
      have:o'=o:=Option.some.inj (ho'.symm.trans ho)
      subst this
      exact hafter e he hb)
     have hali:al i≠i:=fun e=>by rw [e,hiun'] at hlal;cases hlal
     have h1:=hwr i hiw o hol _ _ _ E a hS hGT (by
      rw [if_pos (by omega),Nat.add_sub_cancel_left,if_pos hlal,← hW0]
      refine hWo _ _ _ fun j hj hjn=>?_
      rw [hal j hj i hiw (by omega)]
      exact hiun') hag
     unfold wpOpIn
     simp only [ho,hw,if_true]
     refine h1.wpIn ?_
     rintro u w' ⟨E',rfl,hS',hext,hdp⟩
     rw [hwd']
     refine ih _ E' _ inv2 hT2 hcnt2 (hS'.congr (fun n=>?_) (fun n hn=>⟨hn.1,fun h=>hn.2 (getD_set_true h)⟩)) ⟨fun t=>?_,((hGT.ext hext hdp)).defers,hGT.size⟩
     ·by_cases hna:n=nx+al i
      ·rw [if_pos hna]
       subst hna
       rw [if_pos (by omega),Nat.add_sub_cancel_left,hoth _ hali,if_pos hlal]
       refine hWo _ _ _ fun j hj hjn=>?_
       rw [hal j hj i hiw (by omega)]
       exact hself
      ·rw [if_neg hna]
       have hWe:W (fun j=>(listed.setIfInBounds i true).getD j false) n=W (fun j=>listed.getD j false) n:=hWo _ _ _ fun j hj hjn=>hoth j (fun e=>hna (by rw [← e];exact hjn.symm))
       by_cases hn:nx≤n
       ·rw [if_pos hn,if_pos hn]
        by_cases hni:n - nx=i
        ·have hn':n=nx+i:=by omega
         have:lkB nbF n=none:=by
          rw [f2 n (fun p hp e=>by
           have h2:=(hmN.1 (pickOps_mem.1 hp).1).2
           exact h2 (by rw [show p.1=i by omega];exact hiw))];rfl
         rw [(hWd _ n).2 this,(hWd _ n).2 this]
         simp
        ·rw [hoth _ hni,hWe]
       ·rw [if_neg hn,if_neg hn]
     ·have:=(hGT.ext hext hdp).tm t
      have e:((pickOps l (hd.filter (fun j=> !iws.contains j))).any fun p=>p.2.dst==some t&&(listed.setIfInBounds i true).getD p.1 false)=((pickOps l (hd.filter (fun j=> !iws.contains j))).any fun p=>p.2.dst==some t&&listed.getD p.1 false):=by
       rw [Bool.eq_iff_iff,List.any_eq_true,List.any_eq_true]
       constructor
       ·rintro ⟨p,hp,h⟩
        rw [hoth p.1 (fun e=>(hmN.1 (pickOps_mem.1 hp).1).2 (by rw [e];exact hiw))] at h
        exact ⟨p,hp,h⟩
       ·rintro ⟨p,hp,h⟩
        refine ⟨p,hp,?_⟩
        rw [hoth p.1 (fun e=>(hmN.1 (pickOps_mem.1 hp).1).2 (by rw [e];exact hiw))]
        exact h
      rw [e]
      exact this
    have hmem:(i,o)∈pickOps l (hd.filter (fun i=> !iws.contains i)):=pickOps_mem.2 ⟨hmN.2 ⟨hi',hiw⟩,hol⟩
    have hst:∀ n b,lkB st00 n=some b→(if nx≤n then (if listed.getD (n - nx) false=true then W (fun j=>listed.getD j false) n else none) else lkB st0 n)=some b:=fun n b hb=>by
     by_cases hn:nx≤n
     ·have:=hs0 n b hb;rw [hst0 n hn] at this;cases this
     ·rw [if_neg hn];exact hs0 n b hb
    obtain ⟨_,_,f3⟩:=hrun_facts _ _ _ hincr hrun
    obtain ⟨tmi,v,x,g1,g2,g3,g4,g5⟩:=f3 (i,o) hmem
    simp only at g1 g2 g3 g4 g5
    have g3:=g3 rfl
    have hag:∀ t∈o.looksAt l.toArray,(if ((pickOps l (hd.filter (fun i=> !iws.contains i))).any fun p=>p.2.dst==some t&&listed.getD p.1 false)=true then lkT tmF t else lkT tm0 t)=tmi t:=fun t ht=>by
     have hd1:=List.all_eq_true.1 hdep (i,o) hmem
     have hd2:=List.all_eq_true.1 hd1 t ht
     by_cases hw:((pickOps l (hd.filter (fun i=> !iws.contains i))).any fun p=>p.2.dst==some t&&listed.getD p.1 false)=true
     ·rw [if_pos hw]
      obtain ⟨q,hq,hq2⟩:=List.any_eq_true.1 hw
      simp only [Bool.and_eq_true,beq_iff_eq] at hq2
      have hd3:=List.all_eq_true.1 hd2 q hq
      simp only [Bool.or_eq_true,bne_iff_ne,ne_eq] at hd3
      rcases hd3 with h|h
      ·exact (h hq2.1).elim
      ·by_cases hlt2:q.1 < i
       ·exact (g4 t q hq hlt2 hq2.1).symm
       ·rw [if_neg hlt2] at h
        simp only [Bool.and_eq_true,decide_eq_true_eq] at h
        have:=reach_listed inv _ _ _ h.2 (fun o' ho' e he hb=>inv.closed q.1 o' ho' hq2.2 e he hb)
        rw [hiun'] at this
        cases this
     ·rw [if_neg hw]
      refine (g5 t (fun q hq hql hqt=>hw (List.any_eq_true.2 ⟨q,hq,?_⟩))).symm
      have hd3:=List.all_eq_true.1 hd2 q hq
      simp only [Bool.or_eq_true,bne_iff_ne,ne_eq] at hd3
      rcases hd3 with h|h
      ·exact (h hqt).elim
      ·rw [if_pos hql] at h
       have:=reach_listed inv _ _ _ h (fun o' ho' e he hb=>by
        have:o'=o:=Option.some.inj (ho'.symm.trans ho)
        subst this
        exact hafter e he hb)
       simp [hqt,this]
    obtain ⟨h1,h2⟩:=g1 _ _ _ E a hS hGT ⟨by omega,fun h=>by rw [Nat.add_sub_cancel_left,hiun'] at h;cases h⟩ hst hag
    have hσ2:∀ n,(if nx≤n then (if (listed.setIfInBounds i true).getD (n - nx) false=true then W (fun j=>(listed.setIfInBounds i true).getD j false) n else none) else lkB st0 n)=if n=nx+i then x else (if nx≤n then (if listed.getD (n - nx) false=true then W (fun j=>listed.getD j false) n else none) else lkB st0 n):=fun n=>by
     by_cases hn:n=nx+i
     ·subst hn
      rw [if_pos rfl,if_pos (by omega),Nat.add_sub_cancel_left,if_pos hself,← g3,← hW0]
      refine hWo _ _ _ fun j hj hjn=>?_
      have hji:j≠i:=fun e=>hiw (by rw [← e];exact hj)
      show (listed.setIfInBounds i true).getD j false=false
      rw [hoth j hji]
      cases hlj:listed.getD j false with
      |false=>rfl
      |true=>
        have:=reach_listed inv _ _ _ (hre j hj) (fun o' ho' e he hb=>inv.closed j o' ho' hlj e he hb)
        rw [show al j=i by omega,hiun'] at this
        cases this
     ·rw [if_neg hn]
      by_cases hn2:nx≤n
      ·rw [if_pos hn2,if_pos hn2,hoth (n - nx) (by omega),hWo (fun j=>(listed.setIfInBounds i true).getD j false) (fun j=>listed.getD j false) n (fun j hj _=>hoth j (fun e=>hiw (by rw [← e];exact hj)))]
      ·rw [if_neg hn2,if_neg hn2]
    have hfr2:∀ n,(nx≤n∧((listed.setIfInBounds i true).getD (n - nx) false=true→lkB nbF n=none))→(nx≤n∧(listed.getD (n - nx) false=true→lkB nbF n=none))∧(x.isSome=true→n≠nx+i):=fun n hn=>by
     refine ⟨⟨hn.1,fun h=>hn.2 (getD_set_true h)⟩,fun hx e=>?_⟩
     subst e
     have:=hn.2 (by rw [Nat.add_sub_cancel_left];exact hself)
     rw [g3] at this
     rw [this] at hx
     cases hx
    have htm2:∀ t,(if ((pickOps l (hd.filter (fun i=> !iws.contains i))).any fun p=>p.2.dst==some t&&(listed.setIfInBounds i true).getD p.1 false)=true then lkT tmF t else lkT tm0 t)=if o.dst=some t then v else (if ((pickOps l (hd.filter (fun i=> !iws.contains i))).any fun p=>p.2.dst==some t&&listed.getD p.1 false)=true then lkT tmF t else lkT tm0 t):=fun t=>by
     by_cases hd1:o.dst=some t
     ·rw [if_pos hd1,if_pos (List.any_eq_true.2 ⟨(i,o),hmem,by simp [hd1,hself]⟩),g2 t hd1]
     ·rw [if_neg hd1]
      have:((pickOps l (hd.filter (fun i=> !iws.contains i))).any fun p=>p.2.dst==some t&&(listed.setIfInBounds i true).getD p.1 false)=((pickOps l (hd.filter (fun i=> !iws.contains i))).any fun p=>p.2.dst==some t&&listed.getD p.1 false):=by
       rw [Bool.eq_iff_iff,List.any_eq_true,List.any_eq_true]
       constructor
       ·rintro ⟨p,hp,h⟩
        simp only [Bool.and_eq_true,beq_iff_eq] at h
        have hpi:p.1≠i:=fun e=>by
         have:=(pickOps_mem.1 hp).2
         rw [e,hol] at this
         injection this with this
         rw [← this] at h
         exact hd1 h.1
        rw [hoth p.1 hpi] at h
        exact ⟨p,hp,by simp [h.1,h.2]⟩
       ·rintro ⟨p,hp,h⟩
        simp only [Bool.and_eq_true,beq_iff_eq] at h
        exact ⟨p,hp,by simp [h.1,getD_set_true h.2]⟩
      rw [this]
    have hdN:∀ t,o.dst=some t→t < B.N:=fun t e=>by
     have:(match o.dst with|some d=>decide (d < B.N)|none=>true)=true:=by
      simp only [opOk,Bool.and_eq_true] at hopk;exact hopk.2
     rw [e] at this
     simpa using this
    unfold wpOpIn
    simp only [ho]
    cases hw:Region.wanted o (yielded l.toArray a.tmps) with
    |true=>
      rw [if_pos rfl]
      refine (h1 hw).wpIn ?_
      rintro u w' ⟨E',rfl,hS',hext,hdp,hv⟩
      exact ih _ E' _ inv2 hT2 hcnt2 (hS'.congr hσ2 hfr2) ((hGT.ext hext hdp).putF (fun t e=>⟨hv,hdN t e⟩) htm2)
    |false=>
      rw [if_neg (by simp)]
      obtain ⟨rfl,hv⟩:=h2 hw
      have hσn:∀ n,(if n=nx+i then none else (if nx≤n then (if listed.getD (n - nx) false=true then W (fun j=>listed.getD j false) n else none) else lkB st0 n))=(if nx≤n then (if listed.getD (n - nx) false=true then W (fun j=>listed.getD j false) n else none) else lkB st0 n):=fun n=>by
       by_cases hn:n=nx+i
       ·subst hn;rw [if_pos rfl,if_pos (by omega),Nat.add_sub_cancel_left,hiun',if_neg (by simp)]
       ·rw [if_neg hn]
      exact ⟨fun _ _=>trivial,ih _ E _ inv2 hT2 hcnt2 (hS.congr (fun n=>(hσ2 n).trans (hσn n)) (fun n hn=>(hfr2 n hn).1)) (hGT.putF (fun t e=>⟨hv,hdN t e⟩) htm2)⟩
def nbW (nx:Nat):List (Nat×Nat×Blk)→(Nat→Option Blk)→(Nat→Bool)→Nat→Option Blk
 |[],f,_,n=>f n
 |(iw,j,c) :: wv,f,d,n=>if n=nx+j∧d iw=true then some c else nbW nx wv f d n
theorem nbW_c (nx iw j:Nat) (c:Blk) (wv:List (Nat×Nat×Blk)) (f:Nat→Option Blk) (d:Nat→Bool) (n:Nat):nbW nx ((iw,j,c) :: wv) f d n=if n=nx+j∧d iw=true then some c else nbW nx wv f d n:=rfl
theorem nbW_none {nx:Nat} {f:Nat→Option Blk} {d:Nat→Bool} {n:Nat}:∀ {wv:List (Nat×Nat×Blk)},(∀ p∈wv,nx+p.2.1=n→d p.1=false)→nbW nx wv f d n=f n
 |[],_=>rfl
 |(iw,j,c) :: wv,h=>by
   unfold nbW
   rw [if_neg (fun ⟨h1,h2⟩=>by rw [h (iw,j,c) (by simp) h1.symm] at h2;cases h2)]
   exact nbW_none fun p hp=>h p (by simp [hp])
theorem nbW_congr {nx:Nat} {f:Nat→Option Blk} {d d':Nat→Bool} {n:Nat}:∀ {wv:List (Nat×Nat×Blk)},(∀ p∈wv,nx+p.2.1=n→d p.1=d' p.1)→nbW nx wv f d n=nbW nx wv f d' n
 |[],_=>rfl
 |(iw,j,c) :: wv,h=>by
   unfold nbW
   rw [nbW_congr fun p hp=>h p (by simp [hp])]
   by_cases hn:n=nx+j
   ·rw [h (iw,j,c) (by simp) hn.symm]
   ·rw [if_neg (fun e=>hn e.1),if_neg (fun e=>hn e.1)]
theorem nbW_dom {nx:Nat} {f:Nat→Option Blk} {d:Nat→Bool} {n:Nat}:∀ {wv:List (Nat×Nat×Blk)},(∀ p∈wv,f (nx+p.2.1)≠none)→(nbW nx wv f d n=none↔f n=none)
 |[],_=> .rfl
 |(iw,j,c) :: wv,h=>by
   unfold nbW
   by_cases hn:n=nx+j∧d iw=true
   ·rw [if_pos hn]
    have:=h (iw,j,c) (by simp)
    rw [← hn.1] at this
    exact ⟨fun e=>(by cases e),fun e=>(this e).elim⟩
   ·rw [if_neg hn];exact nbW_dom fun p hp=>h p (by simp [hp])
theorem nbW_f {nx:Nat} {f g:Nat→Option Blk} {d:Nat→Bool} {n:Nat} (h:f n=g n):∀ {wv:List (Nat×Nat×Blk)},nbW nx wv f d n=nbW nx wv g d n
 |[]=>h
 |(iw,j,c) :: wv=>by unfold nbW;rw [nbW_f h]
def earlyL (T:Tab) (l:List Oper) (nx:Nat) (tm:List (Nat×V)):List (Nat×Nat)→List (Nat×Blk)→(List (Nat×Blk)→Prop)→Prop
 |[],nb,K=>K nb
 |(iw,j) :: wr,nb,K=>match l[iw]? with
   |some o=>match o.op with
     | .store t x y=>match ty T t,ev (lkT tm) x with
       |some i,.ptr m off=>match lkB nb m,vcells (ev (lkT tm) y) with
         |some (.cells t' cs),some vs=>(m=nx+j∧vs.length=i.sz∧off+i.sz≤cs.length)∧earlyL T l nx tm wr (setB m (.cells t' (splice cs off vs)) nb) K
         |_,_=>False
       |_,_=>False
     |_=>False
   |none=>False
def Wr (P:Program) (B:Base) (l:List Oper) (tm:List (Nat×V)) (iw m:Nat) (c0 c1:Blk):Prop:=
 ∀ ow,l[iw]? =some ow→∀ (tm':Nat→V) (σ:Nat→Option Blk) (fr:Nat→Prop) (E:Env) (a:Act),GamS P B σ fr E→GamT B tm' E a→σ m=some c0→(∀ t∈ow.looksAt l.toArray,tm' t=lkT tm t)→
   Upon P (fun u w'=>∃ E',E'.w=w'∧GamS P B (fun n=>if n=m then some c1 else σ n) fr E'∧Ext E E'∧E'.dp=E.dp) ((execOp a.eval ow).run P E.w)
theorem wr_of (hT:TabOk P T) {l:List Oper} {iw m off:Nat} {tm:List (Nat×V)} {o:Oper} {t t':TypeId} {x y:Operand} {i:TyI} {cs vs:List V} (hN:(l.all (opOk B.N))=true) (hol:l[iw]? =some o) (hop:o.op= .store t x y) (hi:ty T t=some i) (hx:ev (lkT tm) x= .ptr m off) (hy:vcells (ev (lkT tm) y)=some vs) (hsz:vs.length=i.sz) (hoff:off+i.sz≤cs.length):
  Wr P B l tm iw m (.cells t' cs) (.cells t' (splice cs off vs)):=by
 intro ow how tm' σ fr E a hS hGT hσm hag
 rw [hol] at how
 cases how
 have hok:=List.all_eq_true.1 hN o (List.mem_of_getElem? hol)
 have hm:=opOk_mem hok
 have hxo:x∈o.op.operands:=by simp [hop,Op.operands]
 have hyo:y∈o.op.operands:=by simp [hop,Op.operands]
 have rx:=ev_ok hGT x (hm x hxo)
 have ry:=ev_ok hGT y (hm y hyo)
 rw [ev_congr (ops:=l.toArray) hag hxo,hx] at rx
 rw [ev_congr (ops:=l.toArray) hag hyo] at ry
 simp only [RV] at rx
 obtain ⟨b,hb1,hb2⟩:=rx
 obtain ⟨us,g1,g2,g3⟩:=vcells_ok hy ry
 obtain ⟨b',cur,k1,k2,k3,k4,k5⟩:=hS.st m _ hσm
 rw [hb1] at k1
 cases k1
 have hl1:=g2.len
 have hl2:=k3.len
 obtain ⟨f1,f2,f3,f4,f5⟩:=setCells_facts b us off E.w
 have hrun:=st_run (P:=P) (w:=E.w) (b:=b) (o:=off) (ty_ok hT hi) g1 g3 (by omega) (there_of k2 (by omega))
 have hW:=GamS.write (x:= .cells t' cs) (x':= .cells t' (splice cs off vs)) (σ':=fun k=>if k=m then some (.cells t' (splice cs off vs)) else σ k) (w':=E.w.setCells b off us) hS hσm (fun k=>rfl) hb1 rfl (fun o' ho'=>(k5.2.2.2 o' ho').elim) f1 f2 f3 f4 f5 (fun E' hE' hext hok=>by
  subst hE'
  refine ⟨b,spliceU cur off us,hb1,setCells_splice k2 (by omega),RVL.splice (RVL.mono hext _ _ k3) (RVL.mono hext _ _ g2),fun u hu=>?_,hok⟩
  unfold spliceU at hu
  rcases List.mem_append.1 hu with hu|hu
  ·rcases List.mem_append.1 hu with hu|hu
   ·exact k4 u (List.mem_of_mem_take hu)
   ·exact g3 u hu
  ·exact k4 u (List.mem_of_mem_drop hu))
 have hr:(execOp a.eval o).run P E.w= .ok .skip (E.w.setCells b off us):=by simp [execOp,hop,hb2,hrun]
 rw [hr]
 exact ⟨_,rfl,hW.1,hW.2,rfl⟩
theorem earlyL_ok (hT:TabOk P T) {l:List Oper} {nx:Nat} {tm:List (Nat×V)} (hN:(l.all (opOk B.N))=true):∀ (wr:List (Nat×Nat)) (nb:List (Nat×Blk)) (K:List (Nat×Blk)→Prop),(wr.map (·.2)).Nodup→earlyL T l nx tm wr nb K→
  ∃ wv nb1,K nb1∧wv.map (fun p:Nat×Nat×Blk=>(p.1,p.2.1))=wr∧(∀ n,nbW nx wv (lkB nb) (fun _=>true) n=lkB nb1 n)∧∀ p∈wv,∃ c0,lkB nb (nx+p.2.1)=some c0∧Wr P B l tm p.1 (nx+p.2.1) c0 p.2.2
 |[],nb,K,_,h=>⟨[],nb,h,rfl,fun _=>rfl,fun p hp=>by cases hp⟩
 |(iw,j) :: wr,nb,K,hnd,h=>by
   rw [List.map_cons,List.nodup_cons] at hnd
   unfold earlyL at h
   split at h<;>try exact h.elim
   rename_i o hol
   split at h<;>try exact h.elim
   rename_i t x y hop
   split at h<;>try exact h.elim
   rename_i i m off hi hx
   split at h<;>try exact h.elim
   rename_i t' cs vs hn hy
   obtain ⟨⟨rfl,hsz,hoff⟩,h⟩:=h
   obtain ⟨wv,nb1,k1,k2,k3,k4⟩:=earlyL_ok hT hN wr _ K hnd.2 h
   have hj:∀ p∈wv,p.2.1≠j:=fun p hp e=>hnd.1 (by
    rw [← k2,List.map_map]
    exact List.mem_map.2 ⟨p,hp,e⟩)
   refine ⟨(iw,j,.cells t' (splice cs off vs)) :: wv,nb1,k1,by rw [List.map_cons,k2],fun n=>?_,fun p hp=>?_⟩
   ·rw [← k3 n,nbW_c]
    by_cases hnj:n=nx+j
    ·have e0:nbW nx wv (lkB (setB (nx+j) (.cells t' (splice cs off vs)) nb)) (fun _=>true) n=lkB (setB (nx+j) (.cells t' (splice cs off vs)) nb) n:=nbW_none (fun p hp e=>absurd (show p.2.1=j by omega) (hj p hp))
     rw [if_pos ⟨hnj,rfl⟩,e0,lkB_setB,if_pos hnj]
    ·rw [if_neg (fun e=>hnj e.1)]
     exact nbW_f (f:=lkB nb) (g:=lkB (setB (nx+j) (.cells t' (splice cs off vs)) nb)) (by rw [lkB_setB,if_neg hnj])
   ·rcases List.mem_cons.1 hp with rfl|hp
    ·exact ⟨_,hn,wr_of hT hN hol hop hi hx hy hsz hoff⟩
    ·obtain ⟨c0,g1,g2⟩:=k4 p hp
     rw [lkB_setB,if_neg (by have:=hj p hp;omega)] at g1
     exact ⟨c0,g1,g2⟩
def wrOk (l:List Oper) (wr:List (Nat×Nat)):Bool:=decide (wr.map (·.2)).Nodup&&decide (wr.map (·.1)).Nodup&&wr.all fun p=>reachB .any l.toArray l.length p.1 p.2
theorem aw_drawnE (wr:List (Nat×Nat)) (hd tl:List Nat) {id:Nat} {ops:Array Oper} {s:St} {Q:AQ} (hT:TabOk P T) (hm:P.follows .mixedOrders=true) (hl:(ops.toList.all (opOk B.N))=true) (hok:(drawOkI ops.toList (wr.map (·.1)++hd) tl (wr.map (·.1))&&wrOk ops.toList wr)=true)
  (hh:(wr.map (·.1)++hd).filter (fun i=> !(wr.map (·.1)).contains i)=hd)
  (h:hwp P T ops s.st s.nx (pickOps ops.toList hd) s.tm [] (fin2 (fun tm nb=>earlyL T ops.toList s.nx tm wr nb (fun nb1=>rwp P B T ops ((pickOps ops.toList tl).map (·.2)) ⟨tm,nb1++s.st,s.nx+ops.toList.length⟩ (Q .normal))) ⟨⟩)):AW P B (.region id ops true) Q ⟨⟩ s:=fun E a hG=>by
 obtain ⟨l,rfl⟩:∃ l:List Oper,ops=l.toArray:=⟨ops.toList,by simp⟩
 simp only [List.toList_toArray,Bool.and_eq_true] at hl hok hh h
 obtain ⟨hok,hwo⟩:=hok
 simp only [wrOk,Bool.and_eq_true,decide_eq_true_eq] at hwo
 obtain ⟨⟨hn2,hn1⟩,hre⟩:=hwo
 have hops0:∀ o∈l.toArray.toList,opOk B.N o=true:=fun o ho=>List.all_eq_true.1 hl o (by simpa using ho)
 have hc:((pickOps l hd).all fun p=>p.2.op.operands.toList.all (constOk B.N))=true:=List.all_eq_true.2 fun p hp=>by
  have:=List.all_eq_true.1 hl p.2 (List.mem_of_getElem? (pickOps_mem.1 hp).2)
  simp only [opOk,Bool.and_eq_true] at this
  exact this.1
 obtain ⟨tmF,nbF,hK,hrun⟩:=hwp_ok (B:=B) hT hops0 _ _ _ hc h
 have hG':=gam_drew hG
 have hst0:∀ n,s.nx≤n→lkB s.st n=none:=fun n hn=>hG.1.none_of_fresh hn
 unfold fin2 at hK
 obtain ⟨wv,nb1,hK1,hwv,hW1,hWr⟩:=earlyL_ok (B:=B) hT hl wr nbF _ hn2 hK
 refine wpIn_region_any hm ?_
 have htail:((pickOps l tl).map (·.2)).all (opOk B.N)=true:=List.all_eq_true.2 fun o ho=>by
  obtain ⟨p,hp,rfl⟩:=List.mem_map.1 ho
  exact List.all_eq_true.1 hl p.2 (List.mem_of_getElem? (pickOps_mem.1 hp).2)
 rw [← hh] at hrun
 have hiw:wr.map (·.1)=wv.map (·.1):=by rw [← hwv,List.map_map];rfl
 let al:Nat→Nat:=fun i=>match wr.find? (fun p=>p.1==i) with|some p=>p.2|none=>0
 have key:∀ (q:List (Nat×Nat)),(q.map (·.1)).Nodup→∀ p∈q,q.find? (fun x=>x.1==p.1)=some p:=by
  intro q
  induction q with
  |nil=>intro _ p hp;cases hp
  |cons x q ih=>
    intro hnd p hp
    rw [List.map_cons,List.nodup_cons] at hnd
    rcases List.mem_cons.1 hp with rfl|hp
    ·rw [List.find?_cons_of_pos (by simp)]
    ·rw [List.find?_cons_of_neg (fun e=>hnd.1 (by
      have:x.1=p.1:=by simpa using e
      rw [this];exact List.mem_map_of_mem hp))]
     exact ih hnd.2 p hp
 have hal:∀ p∈wr,al p.1=p.2:=fun p hp=>by
  show (match wr.find? (fun x=>x.1==p.1) with|some p=>p.2|none=>0)=p.2
  rw [key wr hn1 p hp]
 have halv:∀ p∈wv,al p.1=p.2.1:=fun p hp=>hal (p.1,p.2.1) (by rw [← hwv];exact List.mem_map.2 ⟨p,hp,rfl⟩)
 have hmem:∀ i∈wr.map (·.1),∃ p∈wr,p.1=i:=fun i hi=>List.mem_map.1 hi
 have inj2:∀ (q:List (Nat×Nat)),(q.map (·.2)).Nodup→∀ a∈q,∀ b∈q,a.2=b.2→a=b:=by
  intro q
  induction q with
  |nil=>intro _ a ha;cases ha
  |cons x q ih=>
    intro hnd a ha b hb e
    rw [List.map_cons,List.nodup_cons] at hnd
    rcases List.mem_cons.1 ha with ha'|ha'<;>rcases List.mem_cons.1 hb with hb'|hb'
    ·rw [ha',hb']
    ·exact (hnd.1 (by rw [← ha',e];exact List.mem_map.2 ⟨b,hb',rfl⟩)).elim
    ·exact (hnd.1 (by rw [← hb',← e];exact List.mem_map.2 ⟨a,ha',rfl⟩)).elim
    ·exact ih hnd.2 a ha' b hb' e
 have hdom:∀ p∈wv,lkB nbF (s.nx+p.2.1)≠none:=fun p hp=>by obtain ⟨c0,g1,_⟩:=hWr p hp;rw [g1];simp
 have:=wpAny_headsE (Q:=AQQ P B Q) (al:=al) (W:=fun d=>nbW s.nx wv (lkB nbF) d) (nb1:=nb1) hok hrun hl
  (fun d d' n hd=>nbW_congr fun p hp hpn=>hd p.1 (by rw [hiw];exact List.mem_map_of_mem hp) (by rw [halv p hp];exact hpn))
  (fun n=>nbW_none fun _ _ _=>rfl) hW1 (fun d n=>nbW_dom hdom)
  (fun i hi j hj e=>by
   obtain ⟨p,hp,rfl⟩:=hmem i hi
   obtain ⟨q,hq,rfl⟩:=hmem j hj
   rw [hal p hp,hal q hq] at e
   rw [inj2 wr hn2 p hp q hq e])
  (fun i hi=>by
   obtain ⟨p,hp,rfl⟩:=hmem i hi
   rw [hal p hp]
   exact List.all_eq_true.1 hre p hp)
  hst0 (fun _ _ h=>h)
  (fun i hi ow how tm σ fr E a hS hGT hσ hag=>by
   rw [hiw] at hi
   obtain ⟨p,hp,rfl⟩:=List.mem_map.1 hi
   obtain ⟨c0,g1,g2⟩:=hWr p hp
   rw [halv p hp] at hσ ⊢
   have hc1:nbW s.nx wv (lkB nbF) (fun _=>true) (s.nx+p.2.1)=some p.2.2:=by
    have ndv:(wv.map (fun p=>p.2.1)).Nodup:=by
     have:wv.map (fun p=>p.2.1)=wr.map (·.2):=by rw [← hwv,List.map_map];rfl
     rw [this];exact hn2
    clear hWr hdom halv hW1 hwv hiw hK1 g1 g2 hi how hσ
    induction wv with
    |nil=>cases hp
    |cons x wv ih=>
      rw [List.map_cons,List.nodup_cons] at ndv
      obtain ⟨xi,xj,xc⟩:=x
      unfold nbW
      rcases List.mem_cons.1 hp with rfl|hp
      ·rw [if_pos ⟨rfl,rfl⟩]
      ·rw [if_neg (fun e=>ndv.1 (by
        have:xj=p.2.1:=by have:=e.1;omega
        show xj∈_
        rw [this];exact List.mem_map.2 ⟨p,hp,rfl⟩))]
       exact ih hp ndv.2
   have:=g2 ow how tm σ fr E a hS hGT (hσ.trans g1) hag
   have e:(fun n=>if n=s.nx+p.2.1 then nbW s.nx wv (lkB nbF) (fun _=>true) n else σ n)=fun n=>if n=s.nx+p.2.1 then some p.2.2 else σ n:=by
    funext n
    by_cases hn:n=s.nx+p.2.1
    ·rw [if_pos hn,if_pos hn,hn,hc1]
    ·rw [if_neg hn,if_neg hn]
   rw [e]
   exact this)
  (fun E a hG=>rwp_list hT hops0 _ _ _ htail hK1 (fun s' hs E a hG=>⟨E,s',rfl,hG,hs⟩) E a hG) (wr.map (·.1)++hd).length (Array.replicate l.toArray.size false) ⟨E.η,E.F,{ E.w with drawn:=E.w.drawn+1 },E.dp⟩ a
  ⟨by simp,fun j oj _ hl=>(by rw [getD_replicate_false] at hl;cases hl)⟩ (fun t _=>getD_replicate_false _ _) (by
   rw [List.countP_eq_length];intro i _;rw [getD_replicate_false];rfl)
  (hG'.1.congr (fun n=>by
   rw [getD_replicate_false]
   by_cases hn:s.nx≤n
   ·rw [if_pos hn,if_neg (by simp),hst0 n hn]
   ·rw [if_neg hn]) (fun n hn=>hn.1))
  ⟨fun t=>by
   have:((pickOps l ((wr.map (·.1)++hd).filter (fun i=> !(wr.map (·.1)).contains i))).any fun p=>p.2.dst==some t&&(Array.replicate l.toArray.size false).getD p.1 false)=false:=by
    rw [List.any_eq_false];intro p _;rw [getD_replicate_false];simp
   rw [this,if_neg (by simp)]
   exact hG'.2.tm t,hG'.2.defers,hG'.2.size⟩
 have hlen:(wr.map (·.1)++hd).length+tl.length=l.length:=by
  simp only [drawOkI,Bool.and_eq_true,decide_eq_true_eq] at hok
  exact hok.1.2
 rw [hlen] at this
 simpa using this
theorem aw_drawnEA (wr:List (Nat×Nat)) (tl:List Nat) {id:Nat} {ops:Array Oper} {s:St} {Q:AQ} (hT:TabOk P T) (hm:P.follows .mixedOrders=true) (hl:(ops.toList.all (opOk B.N))=true) (hok:(drawOkI ops.toList (wr.map (·.1)++headIdx 0 ops.toList) tl (wr.map (·.1))&&wrOk ops.toList wr)=true)
  (hh:(wr.map (·.1)++headIdx 0 ops.toList).filter (fun i=> !(wr.map (·.1)).contains i)=headIdx 0 ops.toList)
  (h:hwp P T ops s.st s.nx (headOps 0 ops.toList) s.tm [] (fin2 (fun tm nb=>earlyL T ops.toList s.nx tm wr nb (fun nb1=>rwp P B T ops ((pickOps ops.toList tl).map (·.2)) ⟨tm,nb1++s.st,s.nx+ops.toList.length⟩ (Q .normal))) ⟨⟩)):AW P B (.region id ops true) Q ⟨⟩ s:=by
 have e1:=headOps_eq ops.toList []
 simp only [List.nil_append,List.length_nil] at e1
 refine aw_drawnE wr (headIdx 0 ops.toList) tl hT hm hl hok hh ?_
 rw [e1]
 exact h
end

set_option maxRecDepth 100000
set_option maxHeartbeats 4000000
abbrev Bdo (w:World) (F:Ft) (d:Deferred) (gh:Nat→Value):Base:=⟨w,fun _=>False,F,40,gh,none,fun _=>False,[d]⟩
abbrev rowP (l:List (List Hd)):Blk:= .row 56 1 (dV peer0) ((l.map peerD).map dV)
abbrev cellsC (n:NetP):Blk:= .cells 64 [.mo 3,.d (.sl 3 (pkD default) (n.queue.map pkD)),.d (.sl 2 (prD default) (n.apart.map prD))]
abbrev stC (l:List (List Hd)) (n:NetP):List (Nat×Blk):=[(3,rowP l),(2,cellsC n),(1,.cells 41 [vI 0]),(0,.cells 28 [.d (.c (.slice none 0 0)),.d (.c (.slice none 0 0)),.d (.c (.slice none 0 0))])]
abbrev sAt (f:FuncId) (a:ActP) (r:RoomP):St:=⟨[(4,.ptr 0 0),(5,.ptr 1 0),(9,.ptr 2 0),(35,.d (.c (.func (.func f) #[] #[]))),(36,.agg (dV (actD a))),(40,.ptr 0 0),(41,.ptr 1 0)],stC r.peers r.net,4⟩
abbrev sTo (r:RoomP):St:=⟨[(4,.ptr 0 0),(5,.ptr 1 0),(9,.ptr 2 0),(40,.ptr 0 0),(41,.ptr 1 0)],stC r.peers r.net,4⟩
abbrev sBad:St:=⟨[(4,.ptr 0 0),(5,.ptr 1 0),(40,.ptr 0 0),(41,.ptr 1 0)],[(1,.cells 41 [vI 0]),(0,.cells 28 [.d (.c (.slice none 0 0)),.d (.c (.slice none 0 0)),.d (.c (.slice none 0 0))])],2⟩
abbrev errP (e:Int):List PanicEntry:=[{ v:= .iface 41 (.int .i64 e),recovered:=false }]
theorem gneed_spec (e:Int):Spec Tryz.prog 44 [aB true,aI e] (.rt []):=by
 refine spec_of T_ok Tryz.func44 (by dsimp only [Tryz.f44]) rfl rfl (by simp) fun w F=>?_
 repeat' (first |(with_reducible first |refine aw_seq ?_|refine two_f ?_)|((first |((with_reducible refine aw_regionA T_ok ?_ ?_);kernel_rfl)|(with_reducible refine aw_skip ?_)|((with_reducible refine aw_condM ?_ ?_);kernel_rfl) );simp only [↓avP,avQ,avR,forall_const,implies_true,Nat.reduceEqDiff,Nat.reduceAdd,reduceCtorEq,avS]))
theorem gneed_no (e:Int) (w:World):Calls Tryz.prog 44 #[.bool false,.int .i64 e] w fun x w'=>x= .panicked (errP e)∧w=w':=by
 go_enter Tryz.func44,Tryz.ntmps44
 go_wp2
 exact ⟨rfl,rfl,rfl⟩
theorem gneedP (e:Int):SpecP Tryz.prog 44 [aB false,aI e] (errP e):=by
 intro F w us hF h
 simp only [RAL] at h
 obtain ⟨u,r,rfl,h1,u2,r2,rfl,h2,rfl⟩:=h
 simp only [RA,RD] at h1 h2
 subst h1 h2
 refine (gneed_no e w).mono ?_
 rintro x w' ⟨rfl,rfl⟩
 exact ⟨rfl,Below.refl _ _⟩
theorem peer_h (l:List Hd):(dV (peerD l)).head? =some (.d (handsD l)):=rfl
theorem peer_tk (l:List Hd):(dV (peerD l)).take 1=dV (peerD l):=rfl
theorem subVs_fl (ρ:Ren) (es:List (List D)):subVs ρ (es.map dV).flatten (es.map dV).flatten:=by rw [dV_flat];exact subVs_d _ _
theorem lose_ok (w:World) (F:Ft) (d:Deferred) (gh:Nat→Value) (r:RoomP) (a:ActP) (hn:okNet r.net) (he:atErr r.net a.at_=0):
  callI Tryz.prog (Bdo w F d gh) 20 [.ptr 2 0,.agg (dV (actD a))] (some 37) (sAt 20 a r) (fun s'=>Wk Tryz.prog (Bdo w F d gh) s' (sTo ⟨r.peers,loseN r.net a.at_⟩)) ⟨⟩:=by
 have hl:=nlose_spec r.net a.at_ hn
 rw [he] at hl
 have hnd:=gneed_spec 0
 repeat' (first |(with_reducible refine aw_seq ?_)|((with_reducible refine And.intro ?_ ?_);(focus (rfl)))|((first |((with_reducible refine aw_regionA T_ok ?_ ?_);kernel_rfl)|((with_reducible refine aw_drawnEA (id:=1) [(12,11)] [] T_ok ?_ ?_ ?_ ?_ ?_);kernel_rfl;kernel_rfl;(focus (decide+kernel));kernel_rfl)|((with_reducible apply callI_in T_ok Tryz.func20);(focus (dsimp only [Tryz.f20]));(focus rfl);(focus rfl);kernel_rfl;(focus exact of_decide_eq_true (by kernel_rfl));(focus (kernel_rfl));kernel_rfl;intro _)|((with_reducible refine callK_intro (hl) ?_ ?_ ?_);(focus (with_unfolding_all rfl));kernel_rfl)|((with_reducible refine callI_spec (hnd) ?_ ?_ ?_ ?_);(focus (with_unfolding_all rfl));kernel_rfl;kernel_rfl)|(with_reducible refine fin2_intro ?_) );simp only [↓avP,avQ,avR,forall_const,implies_true,Nat.reduceEqDiff,Nat.reduceAdd,Nat.reduceSub,Nat.reduceLeDiff,reduceCtorEq,↓earlyL.eq_def,avS,stC,rowP,cellsC,netD_B,actD_V,ty_3,ty_28,ty_64,ty_38,ty_26]))
 refine wk_of [(0,some 0),(1,some 1),(2,some 2),(3,some 3)] rfl rfl ?_ ?_
 ·simp only [wkA,reduceIte,Nat.reduceEqDiff]
  (repeat' (first |exact subVs_fl _ _|exact subVs_d _ _|refine And.intro ?_ ?_))
 ·simp only [wkA,reduceIte,Nat.reduceEqDiff]
  (repeat' (first |exact subVs_fl _ _|exact subVs_d _ _|refine And.intro ?_ ?_))
theorem lose_no (w:World) (F:Ft) (d:Deferred) (gh:Nat→Value) (r:RoomP) (a:ActP) (hn:okNet r.net) (he:atErr r.net a.at_≠0):
  callP Tryz.prog (Bdo w F d gh) 20 [.ptr 2 0,.agg (dV (actD a))] (errP (atErr r.net a.at_)) (sAt 20 a r) (fun s'=>Wk Tryz.prog (Bdo w F d gh) s' sBad) ⟨⟩:=by
 have hl:=nlose_spec r.net a.at_ hn
 generalize atErr r.net a.at_=e at he hl ⊢
 have hne:(e==0)=false:=by simpa using he
 have hnd:=gneedP e
 repeat' (first |(with_reducible refine aw_seq ?_)|((with_reducible refine And.intro ?_ ?_);(focus (rfl)))|((first |((with_reducible refine aw_regionP (id:=2) (errP e) T_ok ?_ ?_);kernel_rfl)|((with_reducible refine aw_regionA T_ok ?_ ?_);kernel_rfl)|((with_reducible refine aw_drawnEA (id:=1) [(12,11)] [] T_ok ?_ ?_ ?_ ?_ ?_);kernel_rfl;kernel_rfl;(focus (decide+kernel));kernel_rfl)|((with_reducible apply callP_in Tryz.func20);(focus (dsimp only [Tryz.f20]));(focus rfl);kernel_rfl;(focus exact of_decide_eq_true (by kernel_rfl));intro _)|((with_reducible refine callK_intro (hl) ?_ ?_ ?_);(focus (with_unfolding_all rfl));kernel_rfl)|((with_reducible refine callP_fz (hnd) ?_ ?_ ?_);(focus (repeat' (first |(exact FzA.nil)|(refine FzA.one ?_ ?_)|(exact Fz.d rfl)));done);kernel_rfl)|(with_reducible refine fin2_intro ?_) );simp only [↓avP,avQ,avR,forall_const,implies_true,Nat.reduceEqDiff,Nat.reduceAdd,Nat.reduceSub,Nat.reduceLeDiff,reduceCtorEq,↓earlyL.eq_def,↓rwpP.eq_def,inP,stC,rowP,cellsC,netD_B,actD_V,ty_3,ty_28,ty_64,ty_38,ty_26,hne]))
 refine wk_of [(0,some 0),(1,some 1)] rfl rfl ?_ ?_
 ·simp only [wkA,reduceIte,Nat.reduceEqDiff]
  (repeat' (first |exact subVs_fl _ _|exact subVs_d _ _|refine And.intro ?_ ?_))
 ·simp only [wkA,reduceIte,Nat.reduceEqDiff]
  (repeat' (first |exact subVs_fl _ _|exact subVs_d _ _|refine And.intro ?_ ?_))
theorem repeat_ok (w:World) (F:Ft) (d:Deferred) (gh:Nat→Value) (r:RoomP) (a:ActP) (hn:okNet r.net) (he:repErr r.net a.at_=0):
  callI Tryz.prog (Bdo w F d gh) 21 [.ptr 2 0,.agg (dV (actD a))] (some 37) (sAt 21 a r) (fun s'=>Wk Tryz.prog (Bdo w F d gh) s' (sTo ⟨r.peers,repN r.net a.at_⟩)) ⟨⟩:=by
 have hl:=nrepeat_spec r.net a.at_ hn
 rw [he] at hl
 have hnd:=gneed_spec 0
 repeat' (first |(with_reducible refine aw_seq ?_)|((with_reducible refine And.intro ?_ ?_);(focus (rfl)))|((first |((with_reducible refine aw_regionA T_ok ?_ ?_);kernel_rfl)|((with_reducible refine aw_drawnEA (id:=1) [(12,11)] [] T_ok ?_ ?_ ?_ ?_ ?_);kernel_rfl;kernel_rfl;(focus (decide+kernel));kernel_rfl)|((with_reducible apply callI_in T_ok Tryz.func21);(focus (dsimp only [Tryz.f21]));(focus rfl);(focus rfl);kernel_rfl;(focus exact of_decide_eq_true (by kernel_rfl));(focus (kernel_rfl));kernel_rfl;intro _)|((with_reducible refine callK_intro (hl) ?_ ?_ ?_);(focus (with_unfolding_all rfl));kernel_rfl)|((with_reducible refine callI_spec (hnd) ?_ ?_ ?_ ?_);(focus (with_unfolding_all rfl));kernel_rfl;kernel_rfl)|(with_reducible refine fin2_intro ?_) );simp only [↓avP,avQ,avR,forall_const,implies_true,Nat.reduceEqDiff,Nat.reduceAdd,Nat.reduceSub,Nat.reduceLeDiff,reduceCtorEq,↓earlyL.eq_def,avS,stC,rowP,cellsC,netD_B,actD_V,ty_3,ty_28,ty_64,ty_38,ty_26]))
 refine wk_of [(0,some 0),(1,some 1),(2,some 2),(3,some 3)] rfl rfl ?_ ?_
 ·simp only [wkA,reduceIte,Nat.reduceEqDiff]
  (repeat' (first |exact subVs_fl _ _|exact subVs_d _ _|refine And.intro ?_ ?_))
 ·simp only [wkA,reduceIte,Nat.reduceEqDiff]
  (repeat' (first |exact subVs_fl _ _|exact subVs_d _ _|refine And.intro ?_ ?_))
theorem repeat_no (w:World) (F:Ft) (d:Deferred) (gh:Nat→Value) (r:RoomP) (a:ActP) (hn:okNet r.net) (he:repErr r.net a.at_≠0):
  callP Tryz.prog (Bdo w F d gh) 21 [.ptr 2 0,.agg (dV (actD a))] (errP (repErr r.net a.at_)) (sAt 21 a r) (fun s'=>Wk Tryz.prog (Bdo w F d gh) s' sBad) ⟨⟩:=by
 have hl:=nrepeat_spec r.net a.at_ hn
 generalize repErr r.net a.at_=e at he hl ⊢
 have hne:(e==0)=false:=by simpa using he
 have hnd:=gneedP e
 repeat' (first |(with_reducible refine aw_seq ?_)|((with_reducible refine And.intro ?_ ?_);(focus (rfl)))|((first |((with_reducible refine aw_regionP (id:=2) (errP e) T_ok ?_ ?_);kernel_rfl)|((with_reducible refine aw_regionA T_ok ?_ ?_);kernel_rfl)|((with_reducible refine aw_drawnEA (id:=1) [(12,11)] [] T_ok ?_ ?_ ?_ ?_ ?_);kernel_rfl;kernel_rfl;(focus (decide+kernel));kernel_rfl)|((with_reducible apply callP_in Tryz.func21);(focus (dsimp only [Tryz.f21]));(focus rfl);kernel_rfl;(focus exact of_decide_eq_true (by kernel_rfl));intro _)|((with_reducible refine callK_intro (hl) ?_ ?_ ?_);(focus (with_unfolding_all rfl));kernel_rfl)|((with_reducible refine callP_fz (hnd) ?_ ?_ ?_);(focus (repeat' (first |(exact FzA.nil)|(refine FzA.one ?_ ?_)|(exact Fz.d rfl)));done);kernel_rfl)|(with_reducible refine fin2_intro ?_) );simp only [↓avP,avQ,avR,forall_const,implies_true,Nat.reduceEqDiff,Nat.reduceAdd,Nat.reduceSub,Nat.reduceLeDiff,reduceCtorEq,↓earlyL.eq_def,↓rwpP.eq_def,inP,stC,rowP,cellsC,netD_B,actD_V,ty_3,ty_28,ty_64,ty_38,ty_26,hne]))
 refine wk_of [(0,some 0),(1,some 1)] rfl rfl ?_ ?_
 ·simp only [wkA,reduceIte,Nat.reduceEqDiff]
  (repeat' (first |exact subVs_fl _ _|exact subVs_d _ _|refine And.intro ?_ ?_))
 ·simp only [wkA,reduceIte,Nat.reduceEqDiff]
  (repeat' (first |exact subVs_fl _ _|exact subVs_d _ _|refine And.intro ?_ ?_))
end Go.Proofs.YthidfoohhhkobaaGreat
