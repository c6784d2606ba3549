import Derived.Test.YthidfoohhhkobaaGreatG13
namespace Go.Proofs.YthidfoohhhkobaaGreat
set_option linter.unusedVariables false
set_option linter.unusedSimpArgs false
open Go.RowKit
theorem getD_in' {a:Array Bool} {i:Nat} (h:a.getD i false=true):a.getD i true=true:=by
 rcases Nat.lt_or_ge i a.size with hi|hi
 ·simp [Array.getD_eq_getD_getElem?,hi] at h ⊢;exact h
 ·simp [Array.getD_eq_getD_getElem?,Array.getElem?_eq_none hi] at h
def sinkM (md:Region.Mode) (ops:Array Oper) (n:Nat→Bool) (fl:Nat):Bool:=(List.range ops.size).all fun t=>t==fl||n t||(List.range ops.size).all fun i=> !n i||reachB md ops ops.size t i
theorem sink_specF {md:Region.Mode} {ops:Array Oper} {fl:Nat} {n:Nat→Bool} (hs:sinkM md ops n fl=true) {listed:Array Bool} (inv:GInv md ops listed) {i j:Nat} (hi:i < ops.size) (hin:n i=true) (hun:listed.getD i true=false) (hj:j∈Region.ready md ops listed) (hjf:j≠fl):n j=true:=by
 obtain ⟨_,oj,hoj,hall⟩:=mem_ready.1 hj
 have hjs:j < ops.size:=(Array.getElem?_eq_some_iff.1 hoj).1
 have h1:=List.all_eq_true.1 hs j (List.mem_range.2 hjs)
 simp only [Bool.or_eq_true,beq_iff_eq,hjf,false_or] at h1
 rcases h1 with h1|h1
 ·exact h1
 ·have h2:=List.all_eq_true.1 h1 i (List.mem_range.2 hi)
  simp only [hin,Bool.not_true,Bool.false_or] at h2
  have h3:=reach_listed inv _ _ _ h2 (fun o ho e he hb=>by
   have:o=oj:=Option.some.inj (ho.symm.trans hoj)
   subst this
   exact hall e he hb)
  rw [getD_both hun] at h3
  cases h3
def drawOkF (l:List Oper) (hd tail:List Nat) (iws:List Nat) (fl:Nat):Bool:=
 sinkM .any l.toArray (fun i=>hd.contains i&&i != fl) fl&&tail.all (fun t=> !hd.contains t)&&(List.range l.length).all (fun i=>hd.contains i||tail.contains i)&&hd.all (fun i=>decide (i < l.length))&&decide hd.Nodup&&
 (List.range l.length).all (fun i=>match l[i]? with|some o=>o.after.toList.all fun e=> !Region.binds .any e||decide (e.on < i)|none=>true)&&incr (pickOps l (hd.filter (fun i=> !iws.contains i)))&&
 (pickOps l (hd.filter (fun i=> !iws.contains i))).all (fun p=>(p.2.looksAt l.toArray).all fun t=>(pickOps l (hd.filter (fun i=> !iws.contains i))).all fun q=>q.2.dst != some t||(if q.1 < p.1 then reachB .any l.toArray l.length p.1 q.1 else decide (p.1 < q.1)&&reachB .any l.toArray l.length q.1 p.1))&&
 seqT .any l.toArray tail (canonH l.length hd)&&decide (hd.length+tail.length=l.length)&&iws.all (fun iw=>hd.contains iw&&
 (match l[iw]? with
  |some o=>o.dst==none&&o.guard==none&&(o.looksAt l.toArray).all fun t=>(pickOps l (hd.filter (fun i=> !iws.contains i))).all fun q=>q.2.dst != some t||reachB .any l.toArray l.length iw q.1
  |none=>false))
section
variable {P:Program} {B:Base} {T:Tab}
theorem wpAny_headsF {fl:Nat} {l:List Oper} {hd tail:List Nat} {iws:List Nat} {al:Nat→Nat} {W:(Nat→Bool)→Nat→Option Blk} {nb1:List (Nat×Blk)} {Q:Exit→Act→World→Prop} {tm0 tmF:List (Nat×V)} {st00 st0 nbF:List (Nat×Blk)} {nx:Nat} (hok:drawOkF l hd tail iws fl=true) (hrun:HRun P B l.toArray st00 nx tmF nbF (pickOps l (hd.filter (fun i=> !iws.contains i))) tm0 []) (hN:(l.all (opOk B.N))=true)
  (hWo:∀ d d' n,(∀ i∈iws,nx+al i=n→d i=d' i)→W d n=W d' n) (hW0:∀ n,W (fun _=>false) n=lkB nbF n) (hW1:∀ n,W (fun _=>true) n=lkB nb1 n) (hWd:∀ d n,W d n=none↔lkB nbF n=none) (hal:∀ i∈iws,∀ j∈iws,al i=al j→i=j) (hre:∀ i∈iws,reachB .any l.toArray l.length i (al i)=true)
  (hst0:∀ n,nx≤n→lkB st0 n=none) (hs0:∀ n b,lkB st00 n=some b→lkB st0 n=some b)
  (hwr:∀ iw∈iws,∀ ow,l[iw]? =some ow→∀ (tm:Nat→V) (σ:Nat→Option Blk) (fr:Nat→Prop) (E:Env) (a:Act),GamS P B σ fr E→GamT B tm E a→σ (nx+al iw)=lkB nbF (nx+al iw)→(∀ t∈ow.looksAt l.toArray,tm t=lkT tmF t)→
   Upon P (fun u w'=>∃ E',E'.w=w'∧GamS P B (fun n=>if n=nx+al iw then W (fun _=>true) n else σ n) fr E'∧Ext E E'∧E'.dp=E.dp) ((execOp a.eval ow).run P E.w))
  (hQ:∀ E a,Gam P B ⟨tmF,nb1++st0,nx+l.length⟩ E a→wpListIn (fen B.r) 0 P l.toArray Q ((pickOps l tail).map (·.2)) a E.w):
  ∀ (F:Nat) (listed:Array Bool) (E:Env) (a:Act),GInv .any l.toArray listed→listed.getD fl false=true→(∀ t∈tail,listed.getD t false=false)→hd.countP (fun i=> !listed.getD i false)=F→
   GamS P B (fun n=>if nx≤n then (if listed.getD (n - nx) false=true then W (fun j=>listed.getD j false) n else none) else lkB st0 n) (fun n=>nx≤n∧(listed.getD (n - nx) false=true→lkB nbF n=none)) E→
   GamT B (fun t=>if ((pickOps l (hd.filter (fun i=> !iws.contains i))).any fun p=>p.2.dst==some t&&listed.getD p.1 false)=true then lkT tmF t else lkT tm0 t) E a→wpAnyIn (fen B.r) 0 P .any l.toArray Q (F+tail.length) listed a E.w:=by
 simp only [drawOkF,Bool.and_eq_true] at hok
 obtain ⟨⟨⟨⟨⟨⟨⟨⟨⟨⟨hsink,htl⟩,hpart⟩,hlt⟩,hnd⟩,hedge⟩,hincr⟩,hdep⟩,hseq⟩,_⟩,hwok⟩:=hok
 have hiwh:∀ i∈iws,i∈hd:=fun i hi=>by
  have:=List.all_eq_true.1 hwok i hi
  simp only [Bool.and_eq_true] at this
  simpa using this.1
 have hmN:∀ {j:Nat},j∈hd.filter (fun i=> !iws.contains i)↔j∈hd∧j ∉ iws:=fun {j}=>by simp [List.mem_filter]
 obtain ⟨f1,f2,_⟩:=hrun_facts _ _ _ hincr hrun
 have hnd':hd.Nodup:=by simpa using hnd
 have htl':∀ t∈tail,hd.contains t=false:=fun t ht=>by have:=List.all_eq_true.1 htl t ht;simpa using this
 intro F
 induction F with
 |zero=>
   intro listed E a inv hfl hT hcnt hS hGT
   have hall:∀ i∈hd,listed.getD i false=true:=fun i hi=>by
    have:=List.countP_eq_zero.1 hcnt i hi
    simpa using this
   have hsz:listed.size=l.length:=by rw [inv.size];simp
   have hcan:listed=canonH l.length hd:=by
    refine Array.ext_getElem? fun i=>?_
    have hcs:=(foldl_canon hd (Array.replicate l.length false) i)
    have hcsz:(canonH l.length hd).size=l.length:=by unfold canonH;rw [hcs.1];simp
    by_cases hi:i < l.length
    ·have e1:listed[i]? =some (listed.getD i false):=by simp [Array.getD_eq_getD_getElem?,hsz,hi]
     have e2:(canonH l.length hd)[i]? =some ((canonH l.length hd).getD i false):=by simp [Array.getD_eq_getD_getElem?,hcsz,hi]
     rw [e1,e2]
     congr 1
     unfold canonH
     rw [hcs.2]
     rw [getD_replicate_false]
     simp only [Array.size_replicate,Bool.false_or]
     by_cases hh:hd.contains i=true
     ·rw [hh,hall i (by simpa using hh)];simp [hi]
     ·have:=List.all_eq_true.1 hpart i (List.mem_range.2 hi)
      simp only [Bool.or_eq_true] at this
      rcases this with h|h
      ·exact (hh h).elim
      ·rw [hT i (by simpa using h)];simp only [Bool.not_eq_true] at hh;rw [hh];rfl
    ·rw [Array.getElem?_eq_none (by omega),Array.getElem?_eq_none (by omega)]
   rw [Nat.zero_add]
   refine wpAnyIn_of_seqT tail listed a E.w (by rw [hcan];exact hseq) (hQ E a ⟨hS.congr (fun n=>?_) (fun n hn=>?_),⟨fun t=>?_,hGT.defers,hGT.size⟩⟩)
   ·
    have hWl:W (fun j=>listed.getD j false) n=lkB nb1 n:=(hWo _ _ n (fun i hi _=>hall i (hiwh i hi))).trans (hW1 n)
    have hap:lkB (nb1++st0) n=match lkB nb1 n with|some b=>some b|none=>lkB st0 n:=by
     generalize nb1=nb
     induction nb with
     |nil=>rfl
     |cons p nb ih=>
       obtain ⟨k,b⟩:=p
       simp only [List.cons_append,lkB]
       split
       ·rfl
       ·exact ih
    show lkB (nb1++st0) n=_
    rw [hap]
    by_cases hn:nx≤n
    ·rw [if_pos hn]
     by_cases hh:hd.contains (n - nx)=true
     ·rw [if_pos (hall _ (by simpa using hh)),hWl,hst0 n hn];cases lkB nb1 n<;>rfl
     ·have:lkB nbF n=none:=by
       rw [f2 n (fun p hp e=>hh ?_)];rfl
       have:=(hmN.1 (pickOps_mem.1 hp).1).1
       rw [e,Nat.add_sub_cancel_left];simpa using this
      rw [← hW1 n,(hWd _ n).2 this,(hWd _ n).2 this,hst0 n hn];simp
    ·rw [if_neg hn]
     have:lkB nbF n=none:=by
      rw [f2 n (fun p hp e=>by omega)];rfl
     rw [← hW1 n,(hWd _ n).2 this]
   ·have hn':nx+l.length≤n:=hn
    refine ⟨by omega,fun h=>?_⟩
    rw [show listed.getD (n - nx) false=false by
     simp [Array.getD_eq_getD_getElem?,Array.getElem?_eq_none (show listed.size≤n - nx by omega)]] at h
    cases h
   ·have:=hGT.tm t
    show RV E (lkT tmF t) _
    by_cases hw:((pickOps l (hd.filter (fun i=> !iws.contains i))).any fun p=>p.2.dst==some t&&listed.getD p.1 false)=true
    ·rw [if_pos hw] at this;exact this
    ·rw [if_neg hw] at this
     rw [f1 t (fun p hp e=>hw (List.any_eq_true.2 ⟨p,hp,by simp [e,hall p.1 (hmN.1 (pickOps_mem.1 hp).1).1]⟩))]
     exact this
 |succ F ih=>
   intro listed E a inv hfl hT hcnt hS hGT
   have hsz:listed.size=l.length:=by rw [inv.size];simp
   rw [show F+1+tail.length=(F+tail.length)+1 by omega]
   obtain ⟨k,hk,hku⟩:∃ k,k∈hd∧listed.getD k false=false:=by
    have:0 < hd.countP (fun i=> !listed.getD i false):=by omega
    obtain ⟨k,h1,h2⟩:=List.countP_pos_iff.1 this
    exact ⟨k,h1,by simpa using h2⟩
   have hkl:k < l.length:=by have:=List.all_eq_true.1 hlt k hk;simpa using this
   have hku':listed.getD k true=false:=getD_in (by omega) hku
   refine ⟨fun hr=>?_,fun i hi=>?_⟩
   ·
    obtain ⟨m,⟨hm1,hm2⟩,hm3⟩:=exists_min (p:=fun m=>m < l.length∧listed.getD m false=false) ⟨k,hkl,hku⟩
    have:m∈Region.ready .any l.toArray listed:=by
     refine mem_ready.2 ⟨getD_in (by omega) hm2,l[m],by simp [hm1],fun e he hb=>?_⟩
     have h1:=List.all_eq_true.1 hedge m (List.mem_range.2 hm1)
     rw [List.getElem?_eq_getElem hm1] at h1
     have h2:=List.all_eq_true.1 h1 e (by simpa using he)
     rw [hb] at h2
     simp at h2
     cases hc:listed.getD e.on false with
     |true=>rfl
     |false=>exact (hm3 e.on h2 ⟨by omega,hc⟩).elim
    rw [hr] at this
    cases this
   ·have hkf:k≠fl:=fun e=>by rw [e,hfl] at hku;cases hku
    have hif:i≠fl:=fun e=>by
     have:=(mem_ready.1 hi).1
     rw [e,getD_in' hfl] at this
     cases this
    have hih0:=sink_specF hsink inv (i:=k) (by simpa using hkl) (by simp [hkf,hk]) hku' hi hif
    have hih:hd.contains i=true:=((Bool.and_eq_true _ _).mp hih0).1
    have hi':i∈hd:=by simpa using hih
    obtain ⟨hiun,o,ho,hafter⟩:=mem_ready.1 hi
    have hol:l[i]? =some o:=by simpa using ho
    have hil:i < l.length:=(List.getElem?_eq_some_iff.1 hol).1
    have hiun':=getD_both hiun
    have hopk:=List.all_eq_true.1 hN o (List.mem_of_getElem? hol)
    have inv2:=inv.set hi
    have hself:(listed.setIfInBounds i true).getD i false=true:=by simp [hsz,hil]
    have hoth:∀ j,j≠i→(listed.setIfInBounds i true).getD j false=listed.getD j false:=fun j hj=>getD_set_ne false (Ne.symm hj)
    have hT2:∀ t∈tail,(listed.setIfInBounds i true).getD t false=false:=fun t ht=>by
     rw [hoth t (fun e=>by have:=htl' t ht;rw [e] at this;rw [this] at hih;cases hih)];exact hT t ht
    have hcnt2:hd.countP (fun j=> !(listed.setIfInBounds i true).getD j false)=F:=by
     have:=countP_set hnd' hi' (f:=fun j=> !listed.getD j false) (g:=fun j=> !(listed.setIfInBounds i true).getD j false) (by simp [hiun']) (by simp [hself]) (fun j hj=>by rw [hoth j hj])
     omega
    by_cases hiw:i∈iws
    ·
     have hwok:=List.all_eq_true.1 hwok i hiw
     rw [hol] at hwok
     simp only [Bool.and_eq_true] at hwok
     obtain ⟨_,⟨hwd,hwg⟩,hwl⟩:=hwok
     have hwd':o.dst=none:=by simpa using hwd
     have hwg':o.guard=none:=by simpa using hwg
     have hag:∀ t∈o.looksAt l.toArray,(if ((pickOps l (hd.filter (fun j=> !iws.contains j))).any fun p=>p.2.dst==some t&&listed.getD p.1 false)=true then lkT tmF t else lkT tm0 t)=lkT tmF t:=fun t ht=>by
      by_cases hw:((pickOps l (hd.filter (fun j=> !iws.contains j))).any fun p=>p.2.dst==some t&&listed.getD p.1 false)=true
      ·rw [if_pos hw]
      ·rw [if_neg hw]
       refine (f1 t (fun q hq hqt=>hw (List.any_eq_true.2 ⟨q,hq,?_⟩))).symm
       have h1:=List.all_eq_true.1 (List.all_eq_true.1 hwl t ht) q hq
       simp only [Bool.or_eq_true,bne_iff_ne,ne_eq] at h1
       rcases h1 with h|h
       ·exact (h hqt).elim
       ·have:=reach_listed inv _ _ _ h (fun o' ho' e he hb=>by
         have:o'=o:=Option.some.inj (ho'.symm.trans ho)
         subst this
         exact hafter e he hb)
        simp [hqt,this]
     have hw:Region.wanted o (yielded l.toArray a.tmps)=true:=by simp [Region.wanted,hwg']
     have hlal:listed.getD (al i) false=true:=reach_listed inv _ _ _ (hre i hiw) (fun o' ho' e he hb=>by
      have:o'=o:=Option.some.inj (ho'.symm.trans ho)
      subst this
      exact hafter e he hb)
     have hali:al i≠i:=fun e=>by rw [e,hiun'] at hlal;cases hlal
     have h1:=hwr i hiw o hol _ _ _ E a hS hGT (by
      rw [if_pos (by omega),Nat.add_sub_cancel_left,if_pos hlal,← hW0]
      refine hWo _ _ _ fun j hj hjn=>?_
      rw [hal j hj i hiw (by omega)]
      exact hiun') hag
     unfold wpOpIn
     simp only [ho,hw,if_true]
     refine h1.wpIn ?_
     rintro u w' ⟨E',rfl,hS',hext,hdp⟩
     rw [hwd']
     refine ih _ E' _ inv2 (getD_set_true hfl) hT2 hcnt2 (hS'.congr (fun n=>?_) (fun n hn=>⟨hn.1,fun h=>hn.2 (getD_set_true h)⟩)) ⟨fun t=>?_,((hGT.ext hext hdp)).defers,hGT.size⟩
     ·by_cases hna:n=nx+al i
      ·rw [if_pos hna]
       subst hna
       rw [if_pos (by omega),Nat.add_sub_cancel_left,hoth _ hali,if_pos hlal]
       refine hWo _ _ _ fun j hj hjn=>?_
       rw [hal j hj i hiw (by omega)]
       exact hself
      ·rw [if_neg hna]
       have hWe:W (fun j=>(listed.setIfInBounds i true).getD j false) n=W (fun j=>listed.getD j false) n:=hWo _ _ _ fun j hj hjn=>hoth j (fun e=>hna (by rw [← e];exact hjn.symm))
       by_cases hn:nx≤n
       ·rw [if_pos hn,if_pos hn]
        by_cases hni:n - nx=i
        ·have hn':n=nx+i:=by omega
         have:lkB nbF n=none:=by
          rw [f2 n (fun p hp e=>by
           have h2:=(hmN.1 (pickOps_mem.1 hp).1).2
           exact h2 (by rw [show p.1=i by omega];exact hiw))];rfl
         rw [(hWd _ n).2 this,(hWd _ n).2 this]
         simp
        ·rw [hoth _ hni,hWe]
       ·rw [if_neg hn,if_neg hn]
     ·have:=(hGT.ext hext hdp).tm t
      have e:((pickOps l (hd.filter (fun j=> !iws.contains j))).any fun p=>p.2.dst==some t&&(listed.setIfInBounds i true).getD p.1 false)=((pickOps l (hd.filter (fun j=> !iws.contains j))).any fun p=>p.2.dst==some t&&listed.getD p.1 false):=by
       rw [Bool.eq_iff_iff,List.any_eq_true,List.any_eq_true]
       constructor
       ·rintro ⟨p,hp,h⟩
        rw [hoth p.1 (fun e=>(hmN.1 (pickOps_mem.1 hp).1).2 (by rw [e];exact hiw))] at h
        exact ⟨p,hp,h⟩
       ·rintro ⟨p,hp,h⟩
        refine ⟨p,hp,?_⟩
        rw [hoth p.1 (fun e=>(hmN.1 (pickOps_mem.1 hp).1).2 (by rw [e];exact hiw))]
        exact h
      rw [e]
      exact this
    have hmem:(i,o)∈pickOps l (hd.filter (fun i=> !iws.contains i)):=pickOps_mem.2 ⟨hmN.2 ⟨hi',hiw⟩,hol⟩
    have hst:∀ n b,lkB st00 n=some b→(if nx≤n then (if listed.getD (n - nx) false=true then W (fun j=>listed.getD j false) n else none) else lkB st0 n)=some b:=fun n b hb=>by
     by_cases hn:nx≤n
     ·have:=hs0 n b hb;rw [hst0 n hn] at this;cases this
     ·rw [if_neg hn];exact hs0 n b hb
    obtain ⟨_,_,f3⟩:=hrun_facts _ _ _ hincr hrun
    obtain ⟨tmi,v,x,g1,g2,g3,g4,g5⟩:=f3 (i,o) hmem
    simp only at g1 g2 g3 g4 g5
    have g3:=g3 rfl
    have hag:∀ t∈o.looksAt l.toArray,(if ((pickOps l (hd.filter (fun i=> !iws.contains i))).any fun p=>p.2.dst==some t&&listed.getD p.1 false)=true then lkT tmF t else lkT tm0 t)=tmi t:=fun t ht=>by
     have hd1:=List.all_eq_true.1 hdep (i,o) hmem
     have hd2:=List.all_eq_true.1 hd1 t ht
     by_cases hw:((pickOps l (hd.filter (fun i=> !iws.contains i))).any fun p=>p.2.dst==some t&&listed.getD p.1 false)=true
     ·rw [if_pos hw]
      obtain ⟨q,hq,hq2⟩:=List.any_eq_true.1 hw
      simp only [Bool.and_eq_true,beq_iff_eq] at hq2
      have hd3:=List.all_eq_true.1 hd2 q hq
      simp only [Bool.or_eq_true,bne_iff_ne,ne_eq] at hd3
      rcases hd3 with h|h
      ·exact (h hq2.1).elim
      ·by_cases hlt2:q.1 < i
       ·exact (g4 t q hq hlt2 hq2.1).symm
       ·rw [if_neg hlt2] at h
        simp only [Bool.and_eq_true,decide_eq_true_eq] at h
        have:=reach_listed inv _ _ _ h.2 (fun o' ho' e he hb=>inv.closed q.1 o' ho' hq2.2 e he hb)
        rw [hiun'] at this
        cases this
     ·rw [if_neg hw]
      refine (g5 t (fun q hq hql hqt=>hw (List.any_eq_true.2 ⟨q,hq,?_⟩))).symm
      have hd3:=List.all_eq_true.1 hd2 q hq
      simp only [Bool.or_eq_true,bne_iff_ne,ne_eq] at hd3
      rcases hd3 with h|h
      ·exact (h hqt).elim
      ·rw [if_pos hql] at h
       have:=reach_listed inv _ _ _ h (fun o' ho' e he hb=>by
        have:o'=o:=Option.some.inj (ho'.symm.trans ho)
        subst this
        exact hafter e he hb)
       simp [hqt,this]
    obtain ⟨h1,h2⟩:=g1 _ _ _ E a hS hGT ⟨by omega,fun h=>by rw [Nat.add_sub_cancel_left,hiun'] at h;cases h⟩ hst hag
    have hσ2:∀ n,(if nx≤n then (if (listed.setIfInBounds i true).getD (n - nx) false=true then W (fun j=>(listed.setIfInBounds i true).getD j false) n else none) else lkB st0 n)=if n=nx+i then x else (if nx≤n then (if listed.getD (n - nx) false=true then W (fun j=>listed.getD j false) n else none) else lkB st0 n):=fun n=>by
     by_cases hn:n=nx+i
     ·subst hn
      rw [if_pos rfl,if_pos (by omega),Nat.add_sub_cancel_left,if_pos hself,← g3,← hW0]
      refine hWo _ _ _ fun j hj hjn=>?_
      have hji:j≠i:=fun e=>hiw (by rw [← e];exact hj)
      show (listed.setIfInBounds i true).getD j false=false
      rw [hoth j hji]
      cases hlj:listed.getD j false with
      |false=>rfl
      |true=>
        have:=reach_listed inv _ _ _ (hre j hj) (fun o' ho' e he hb=>inv.closed j o' ho' hlj e he hb)
        rw [show al j=i by omega,hiun'] at this
        cases this
     ·rw [if_neg hn]
      by_cases hn2:nx≤n
      ·rw [if_pos hn2,if_pos hn2,hoth (n - nx) (by omega),hWo (fun j=>(listed.setIfInBounds i true).getD j false) (fun j=>listed.getD j false) n (fun j hj _=>hoth j (fun e=>hiw (by rw [← e];exact hj)))]
      ·rw [if_neg hn2,if_neg hn2]
    have hfr2:∀ n,(nx≤n∧((listed.setIfInBounds i true).getD (n - nx) false=true→lkB nbF n=none))→(nx≤n∧(listed.getD (n - nx) false=true→lkB nbF n=none))∧(x.isSome=true→n≠nx+i):=fun n hn=>by
     refine ⟨⟨hn.1,fun h=>hn.2 (getD_set_true h)⟩,fun hx e=>?_⟩
     subst e
     have:=hn.2 (by rw [Nat.add_sub_cancel_left];exact hself)
     rw [g3] at this
     rw [this] at hx
     cases hx
    have htm2:∀ t,(if ((pickOps l (hd.filter (fun i=> !iws.contains i))).any fun p=>p.2.dst==some t&&(listed.setIfInBounds i true).getD p.1 false)=true then lkT tmF t else lkT tm0 t)=if o.dst=some t then v else (if ((pickOps l (hd.filter (fun i=> !iws.contains i))).any fun p=>p.2.dst==some t&&listed.getD p.1 false)=true then lkT tmF t else lkT tm0 t):=fun t=>by
     by_cases hd1:o.dst=some t
     ·rw [if_pos hd1,if_pos (List.any_eq_true.2 ⟨(i,o),hmem,by simp [hd1,hself]⟩),g2 t hd1]
     ·rw [if_neg hd1]
      have:((pickOps l (hd.filter (fun i=> !iws.contains i))).any fun p=>p.2.dst==some t&&(listed.setIfInBounds i true).getD p.1 false)=((pickOps l (hd.filter (fun i=> !iws.contains i))).any fun p=>p.2.dst==some t&&listed.getD p.1 false):=by
       rw [Bool.eq_iff_iff,List.any_eq_true,List.any_eq_true]
       constructor
       ·rintro ⟨p,hp,h⟩
        simp only [Bool.and_eq_true,beq_iff_eq] at h
        have hpi:p.1≠i:=fun e=>by
         have:=(pickOps_mem.1 hp).2
         rw [e,hol] at this
         injection this with this
         rw [← this] at h
         exact hd1 h.1
        rw [hoth p.1 hpi] at h
        exact ⟨p,hp,by simp [h.1,h.2]⟩
       ·rintro ⟨p,hp,h⟩
        simp only [Bool.and_eq_true,beq_iff_eq] at h
        exact ⟨p,hp,by simp [h.1,getD_set_true h.2]⟩
      rw [this]
    have hdN:∀ t,o.dst=some t→t < B.N:=fun t e=>by
     have:(match o.dst with|some d=>decide (d < B.N)|none=>true)=true:=by
      simp only [opOk,Bool.and_eq_true] at hopk;exact hopk.2
     rw [e] at this
     simpa using this
    unfold wpOpIn
    simp only [ho]
    cases hw:Region.wanted o (yielded l.toArray a.tmps) with
    |true=>
      rw [if_pos rfl]
      refine (h1 hw).wpIn ?_
      rintro u w' ⟨E',rfl,hS',hext,hdp,hv⟩
      exact ih _ E' _ inv2 (getD_set_true hfl) hT2 hcnt2 (hS'.congr hσ2 hfr2) ((hGT.ext hext hdp).putF (fun t e=>⟨hv,hdN t e⟩) htm2)
    |false=>
      rw [if_neg (by simp)]
      obtain ⟨rfl,hv⟩:=h2 hw
      have hσn:∀ n,(if n=nx+i then none else (if nx≤n then (if listed.getD (n - nx) false=true then W (fun j=>listed.getD j false) n else none) else lkB st0 n))=(if nx≤n then (if listed.getD (n - nx) false=true then W (fun j=>listed.getD j false) n else none) else lkB st0 n):=fun n=>by
       by_cases hn:n=nx+i
       ·subst hn;rw [if_pos rfl,if_pos (by omega),Nat.add_sub_cancel_left,hiun',if_neg (by simp)]
       ·rw [if_neg hn]
      exact ⟨fun _ _=>trivial,ih _ E _ inv2 (getD_set_true hfl) hT2 hcnt2 (hS.congr (fun n=>(hσ2 n).trans (hσn n)) (fun n hn=>(hfr2 n hn).1)) (hGT.putF (fun t e=>⟨hv,hdN t e⟩) htm2)⟩
theorem aw_drawnM (fl d src:Nat) (hd tl:List Nat) {id:Nat} {ops:Array Oper} {s:St} {Q:AQ} (hT:TabOk P T) (hr:B.r=none) (hm:P.follows .mixedOrders=true) (hl:(ops.toList.all (opOk B.N))=true) (hok:drawOkF ops.toList hd tl [] fl=true)
  (hmv:(match ops[fl]? with|some o=>o.guard==none&&o.dst==some d&&o.after.size==0&&(match o.op with| .move (.tmp t)=>t==src|_=>false)|none=>false)=true)
  (hfh:hd.contains fl=true) (hfr:(Region.noSelect ops&&Region.free .any ops (Array.replicate ops.size false) fl&&(Region.ready .any ops (Array.replicate ops.size false)).contains fl)=true)
  (h:hwp P T ops s.st s.nx (pickOps ops.toList hd) s.tm [] (fin2 (fun tm nb=>(lkB nb (s.nx+fl)=none∧lkT tm d=lkT s.tm src)∧rwp P B T ops ((pickOps ops.toList tl).map (·.2)) ⟨tm,nb++s.st,s.nx+ops.toList.length⟩ (Q .normal)) ⟨⟩)):AW P B (.region id ops true) Q ⟨⟩ s:=fun E a hG=>by
 obtain ⟨l,rfl⟩:∃ l:List Oper,ops=l.toArray:=⟨ops.toList,by simp⟩
 simp only [List.toList_toArray] at hl hok h
 simp only [Bool.and_eq_true] at hfr
 obtain ⟨⟨hsel,hfree⟩,hrdy⟩:=hfr
 have hops0:∀ o∈l.toArray.toList,opOk B.N o=true:=fun o ho=>List.all_eq_true.1 hl o (by simpa using ho)
 obtain ⟨o,hof,hg,hdst,hop⟩:∃ o,l.toArray[fl]? =some o∧o.guard=none∧o.dst=some d∧o.op= .move (.tmp src):=by
  split at hmv
  ·rename_i o ho
   simp only [Bool.and_eq_true,beq_iff_eq] at hmv
   obtain ⟨⟨⟨h1,h2⟩,_⟩,h4⟩:=hmv
   refine ⟨o,ho,h1,h2,?_⟩
   split at h4
   ·rename_i t ht;rw [ht];congr 2;simpa using h4
   ·cases h4
  ·cases hmv
 have hofl:l[fl]? =some o:=by simpa using hof
 have hok1:=List.all_eq_true.1 hl o (List.mem_of_getElem? hofl)
 have hsN:src < B.N:=by
  have:=opOk_mem hok1 (.tmp src) (by simp [hop,Op.operands])
  simpa [constOk] using this
 have hdN:d < B.N:=by
  simp only [opOk,Bool.and_eq_true,hdst,decide_eq_true_eq] at hok1
  exact hok1.2
 have hc:((pickOps l hd).all fun p=>p.2.op.operands.toList.all (constOk B.N))=true:=List.all_eq_true.2 fun p hp=>by
  have:=List.all_eq_true.1 hl p.2 (List.mem_of_getElem? (pickOps_mem.1 hp).2)
  simp only [opOk,Bool.and_eq_true] at this
  exact this.1
 obtain ⟨tmF,nbF,hK,hrun⟩:=hwp_ok (B:=B) hT hops0 _ _ _ hc h
 have hG':=gam_drew hG
 have hst0:∀ n,s.nx≤n→lkB s.st n=none:=fun n hn=>hG.1.none_of_fresh hn
 unfold fin2 at hK
 obtain ⟨⟨hnf,htd⟩,hK1⟩:=hK
 have htail:((pickOps l tl).map (·.2)).all (opOk B.N)=true:=List.all_eq_true.2 fun o ho=>by
  obtain ⟨p,hp,rfl⟩:=List.mem_map.1 ho
  exact List.all_eq_true.1 hl p.2 (List.mem_of_getElem? (pickOps_mem.1 hp).2)
 have hh:hd.filter (fun i=> !([]:List Nat).contains i)=hd:=by rw [List.filter_eq_self];intro x _;rfl
 rw [← hh] at hrun
 have hfh:fl∈hd:=by simpa using hfh
 have hsz:fl < l.length:=(List.getElem?_eq_some_iff.1 hofl).1
 have hndh:hd.Nodup:=by
  have:=hok
  simp only [drawOkF,Bool.and_eq_true] at this
  simpa using this.1.1.1.1.1.1.2
 let Q0:Exit→Act→World→Prop:=fun e a w=>e= .normal∧AQQ P B Q .normal a w
 refine Code.wpIn_mono (Q:=Q0) (fun e a w hq=>by obtain ⟨rfl,hq⟩:=hq;exact hq) (wpIn_region_any hm ?_)
 have hlen:hd.length+tl.length=l.length:=by
  simp only [drawOkF,Bool.and_eq_true,decide_eq_true_eq] at hok
  exact hok.1.2
 obtain ⟨m,hmm⟩:∃ m,hd.length=m+1:=⟨hd.length - 1,by have:=List.length_pos_of_mem hfh;omega⟩
 have hsize:l.toArray.size=(m+tl.length)+1:=by simp;omega
 rw [hsize]
 have hv:RV ⟨E.η,E.F,{ E.w with drawn:=E.w.drawn+1 },E.dp⟩ (lkT s.tm src) (a.tmps.getD src undef):=by
  have:=hG'.2.tm src
  unfold vOf at this
  rwa [if_pos hsN] at this
 have hex:(execOp a.eval o)=pure (.value (a.tmps.getD src undef)):=by simp [execOp,hop,Act.eval]
 refine wpAnyIn_take (v:=a.tmps.getD src undef) (by show (fen B.r).round=none;rw [hr];rfl) hof (by simpa using hsel) (by rw [hsize] at hfree;exact hfree) (by rw [hsize] at hrdy;exact hrdy) (fun c a w hq=>by cases hq.1) ⟨.inl ⟨by simp [Region.wanted,hg],fun w=>by rw [hex];rfl⟩,fun w=>by simp [Oper.about,hop]⟩ ?_
 rw [hdst]
 have hrep:∀ j,((Array.replicate ((m+tl.length)+1) false).setIfInBounds fl true).getD j false=decide (j=fl):=fun j=>by
  by_cases hj:j=fl
  ·subst hj
   simp [show j < m+tl.length+1 by omega]
  ·rw [getD_set_ne false (Ne.symm hj),getD_replicate_false];simp [hj]
 have inv0:GInv .any l.toArray (Array.replicate ((m+tl.length)+1) false):=⟨by simp;omega,fun j oj _ hl=>(by rw [getD_replicate_false] at hl;cases hl)⟩
 have hrdy':fl∈Region.ready .any l.toArray (Array.replicate ((m+tl.length)+1) false):=by rw [hsize] at hrdy;simpa using hrdy
 have hcnt:hd.countP (fun i=> !((Array.replicate ((m+tl.length)+1) false).setIfInBounds fl true).getD i false)=m:=by
  have:=countP_set hndh hfh (f:=fun _=>true) (g:=fun i=> !((Array.replicate ((m+tl.length)+1) false).setIfInBounds fl true).getD i false) rfl (by simp only [hrep];simp) (fun j hj=>by simp only [hrep];simp [hj])
  have e:hd.countP (fun _=>true)=hd.length:=by rw [List.countP_eq_length];intro _ _;rfl
  omega
 have hput:=(hG'.2.put (d:=some d) (v:=lkT s.tm src) (u:=a.tmps.getD src undef) hv (fun t e=>by cases e;exact hdN))
 refine wpAny_headsF (Q:=Q0) (fl:=fl) (al:=fun _=>0) (W:=fun _=>lkB nbF) (nb1:=nbF) (iws:=[]) hok hrun hl
  (fun _ _ _ _=>rfl) (fun _=>rfl) (fun _=>rfl) (fun _ _=> .rfl) (fun i hi=>by cases hi) (fun i hi=>by cases hi) hst0 (fun _ _ h=>h) (fun i hi=>by cases hi)
  (fun E a hG=>rwp_list hT hops0 _ _ _ htail hK1 (fun s' hs E a hG=>⟨rfl,E,s',rfl,hG,hs⟩) E a hG) m _ ⟨E.η,E.F,{ E.w with drawn:=E.w.drawn+1 },E.dp⟩ _
  (inv0.set hrdy') (by rw [hrep];simp) (fun t ht=>by
   rw [hrep]
   refine decide_eq_false fun e=>?_
   simp only [drawOkF,Bool.and_eq_true] at hok
   have:=List.all_eq_true.1 hok.1.1.1.1.1.1.1.1.1.2 t ht
   rw [e] at this
   simp [hfh] at this) hcnt
  (hG'.1.congr (fun n=>by
   rw [hrep]
   by_cases hn:s.nx≤n
   ·rw [if_pos hn]
    by_cases hnf2:n - s.nx=fl
    ·rw [if_pos (decide_eq_true hnf2),hst0 n hn,show n=s.nx+fl by omega,hnf]
    ·rw [if_neg (by simp [hnf2]),hst0 n hn]
   ·rw [if_neg hn]) (fun n hn=>hn.1))
  ⟨fun t=>?_,hput.defers,hput.size⟩
 have:=hput.tm t
 rw [show lkT (Go.Proofs.YthidfoohhhkobaaGreat.put (some d) (lkT s.tm src) s.tm) t=if t=d then lkT s.tm src else lkT s.tm t from lkT_setT _ _ _ _] at this
 by_cases ht:t=d
 ·subst ht
  rw [if_pos (List.any_eq_true.2 ⟨(fl,o),pickOps_mem.2 ⟨by rw [hh];exact hfh,hofl⟩,by rw [hrep];simp [hdst]⟩),htd]
  simpa using this
 ·have hno:((pickOps l (hd.filter (fun i=> !([]:List Nat).contains i))).any fun p=>p.2.dst==some t&&((Array.replicate ((m+tl.length)+1) false).setIfInBounds fl true).getD p.1 false)=false:=by
   rw [List.any_eq_false]
   intro p hp
   rw [hrep]
   by_cases hpf:p.1=fl
   ·have:=(pickOps_mem.1 hp).2
    rw [hpf,hofl] at this
    cases this
    simp [hdst,Ne.symm ht]
   ·simp [hpf]
  rw [hno,if_neg (by simp)]
  simpa [ht] using this
end

set_option maxRecDepth 100000
set_option maxHeartbeats 4000000
theorem deliver_no (w:World) (F:Ft) (d:Deferred) (gh:Nat→Value) (r:RoomP) (a:ActP) (hn:okNet r.net) (he:atErr r.net a.at_≠0):
  callP Tryz.prog (Bdo w F d gh) 19 [.ptr 2 0,.agg (dV (actD a))] (errP (atErr r.net a.at_)) (sAt 19 a r) (fun s'=>Wk Tryz.prog (Bdo w F d gh) s' sBad) ⟨⟩:=by
 have hl:=ndeliver_spec r.net a.at_ hn
 generalize atErr r.net a.at_=e at he hl ⊢
 have hne:(e==0)=false:=by simpa using he
 have hnd:=gneedP e
 repeat' (first |(with_reducible refine aw_seq ?_)|((with_reducible refine And.intro ?_ ?_);(focus (rfl)))|((first |((with_reducible refine aw_regionP (id:=2) (errP e) T_ok ?_ ?_);kernel_rfl)|((with_reducible refine aw_regionA T_ok ?_ ?_);kernel_rfl)|((with_reducible refine aw_drawnEA (id:=1) [(14,12),(15,13)] [] T_ok ?_ ?_ ?_ ?_ ?_);kernel_rfl;kernel_rfl;(focus (decide+kernel));kernel_rfl)|((with_reducible apply callP_in Tryz.func19);(focus (dsimp only [Tryz.f19]));(focus rfl);kernel_rfl;(focus exact of_decide_eq_true (by kernel_rfl));intro _)|((with_reducible refine callK_intro (hl) ?_ ?_ ?_);(focus (with_unfolding_all rfl));kernel_rfl)|((with_reducible refine callP_fz (hnd) ?_ ?_ ?_);(focus (repeat' (first |(exact FzA.nil)|(refine FzA.one ?_ ?_)|(exact Fz.d rfl)));done);kernel_rfl)|(with_reducible refine fin2_intro ?_) );simp only [↓avP,avQ,avR,forall_const,implies_true,Nat.reduceEqDiff,Nat.reduceAdd,Nat.reduceSub,Nat.reduceLeDiff,reduceCtorEq,↓earlyL.eq_def,↓rwpP.eq_def,inP,stC,rowP,cellsC,netD_B,pkD_B,actD_V,ty_3,ty_28,ty_64,ty_38,ty_26,ty_52,hne]))
 refine wk_of [(0,some 0),(1,some 1)] rfl rfl ?_ ?_
 ·simp only [wkA,reduceIte,Nat.reduceEqDiff]
  (repeat' (first |exact subVs_fl _ _|exact subVs_d _ _|refine And.intro ?_ ?_))
 ·simp only [wkA,reduceIte,Nat.reduceEqDiff]
  (repeat' (first |exact subVs_fl _ _|exact subVs_d _ _|refine And.intro ?_ ?_))
theorem getD_rowP (l:List (List Hd)) (i:Nat) (hi:i < l.length):((l.map peerD).map dV).getD i (dV peer0)=dV (peerD (l.getD i [])):=by
 simp [List.getD_eq_getElem?_getD,List.getElem?_map,List.getElem?_eq_getElem hi]
theorem set_rowP {l:List (List Hd)} {i:Nat} {h:Hd} {P:List Hd} (hP:l.getD i []=P) (hf:foundH P h=false):((l.map peerD).map dV).set i (.d (.sl 42 (handD default) ((P.map handD).take (lbH P h)++[handD h]++(P.map handD).drop (lbH P h))) :: (dV (peerD P)).drop 1)=((setPeer l (i:Int) h).map peerD).map dV:=by
 unfold setPeer learnL
 rw [Int.toNat_natCast,hP,if_neg (by rw [hf];simp),List.map_set,List.map_set]
 congr 1
 simp [peerD,dV,List.map_append,List.map_take,List.map_drop]
theorem deliver_ok (w:World) (F:Ft) (d:Deferred) (gh:Nat→Value) (r:RoomP) (a:ActP) (hn:okNet r.net) (he:atErr r.net a.at_=0) (hd0:(delP r.net a.at_).data.length≤1000000) (hto:(delP r.net a.at_).frm≠(delP r.net a.at_).to_→0≤(delP r.net a.at_).to_∧(delP r.net a.at_).to_ < r.peers.length∧(readH (delP r.net a.at_).data).2=true∧hOk (readH (delP r.net a.at_).data).1)
  (hp:∀ l∈r.peers,l.length≤1000∧ordH l∧∀ x∈l,hOk x):
  callI Tryz.prog (Bdo w F d gh) 19 [.ptr 2 0,.agg (dV (actD a))] (some 37) (sAt 19 a r) (fun s'=>Wk Tryz.prog (Bdo w F d gh) s' (sTo ⟨if (delP r.net a.at_).frm=(delP r.net a.at_).to_ then r.peers else setPeer r.peers (delP r.net a.at_).to_ (readH (delP r.net a.at_).data).1,loseN r.net a.at_⟩)) ⟨⟩:=by
 have hl:=ndeliver_spec r.net a.at_ hn
 rw [he,if_pos rfl] at hl
 generalize delP r.net a.at_=p at *
 have hnd:=gneed_spec 0
 by_cases hft:p.frm=p.to_
 ·have hb:(p.frm != p.to_)=false:=by simpa using hft
  repeat' (first |(with_reducible first |refine aw_seq ?_|refine two_f ?_)|((with_reducible refine And.intro ?_ ?_);(focus (rfl)))|((first |((with_reducible refine aw_regionA T_ok ?_ ?_);kernel_rfl)|((with_reducible refine aw_drawnEA (id:=1) [(14,12),(15,13)] [] T_ok ?_ ?_ ?_ ?_ ?_);kernel_rfl;kernel_rfl;(focus (decide+kernel));kernel_rfl)|((with_reducible apply callI_in T_ok Tryz.func19);(focus (dsimp only [Tryz.f19]));(focus rfl);(focus rfl);kernel_rfl;(focus exact of_decide_eq_true (by kernel_rfl));(focus (kernel_rfl));kernel_rfl;intro _)|((with_reducible refine callK_intro (hl) ?_ ?_ ?_);(focus (with_unfolding_all rfl));kernel_rfl)|((with_reducible refine callI_spec (hnd) ?_ ?_ ?_ ?_);(focus (with_unfolding_all rfl));kernel_rfl;kernel_rfl)|(with_reducible first |refine fin2_intro ?_|refine aw_skip ?_)|((with_reducible refine aw_condM ?_ ?_);kernel_rfl) );simp only [↓avP,avQ,avR,forall_const,implies_true,Nat.reduceEqDiff,Nat.reduceAdd,Nat.reduceSub,Nat.reduceLeDiff,reduceCtorEq,↓earlyL.eq_def,avS,stC,rowP,cellsC,netD_B,pkD_B,actD_V,ty_3,ty_28,ty_64,ty_38,ty_26,ty_52,hb]))
  rw [if_pos hft]
  refine wk_of [(0,some 0),(1,some 1),(2,some 2),(3,some 3)] rfl rfl ?_ ?_
  ·simp only [wkA,reduceIte,Nat.reduceEqDiff]
   (repeat' (first |exact subVs_fl _ _|exact subVs_d _ _|refine And.intro ?_ ?_))
  ·simp only [wkA,reduceIte,Nat.reduceEqDiff]
   (repeat' (first |exact subVs_fl _ _|exact subVs_d _ _|refine And.intro ?_ ?_))
 have hb:(p.frm != p.to_)=true:=by simpa using hft
 rw [if_neg hft]
 obtain ⟨t0,t1,t2,t3⟩:=hto hft
 have hrd:=gread_spec p.data hd0
 rw [t2] at hrd
 generalize (readH p.data).1=h at *
 obtain ⟨i,hi⟩:∃ i:Nat,p.to_=i:=⟨p.to_.toNat,by omega⟩
 rw [hi] at t0 t1 hb ⊢
 have hil:i < r.peers.length:=by omega
 have hmem:r.peers.getD i []∈r.peers:=mem_getD hil
 obtain ⟨p1,p2,p3⟩:=hp _ hmem
 have hbs:=bsH_spec (r.peers.getD i []) h (by omega) t3 p3 p2
 have hg:=getD_rowP r.peers i hil
 unfold fnC at hbs
 generalize hP:r.peers.getD i []=P at *
 cases hf:foundH P h with
 |true=>
   rw [hf] at hbs
   repeat' (first |(with_reducible first |refine aw_seq ?_|refine two_t ?_)|((with_reducible refine And.intro ?_ ?_);(focus (first |omega|rfl)))|((first |((with_reducible refine aw_regionA T_ok ?_ ?_);kernel_rfl)|((with_reducible refine aw_drawnEA (id:=1) [(14,12),(15,13)] [] T_ok ?_ ?_ ?_ ?_ ?_);kernel_rfl;kernel_rfl;(focus (decide+kernel));kernel_rfl)|((with_reducible refine aw_drawnA T_ok ?_ ?_ ?_ ?_);kernel_rfl;kernel_rfl;(focus (decide+kernel)))|((with_reducible apply callI_in T_ok Tryz.func19);(focus (dsimp only [Tryz.f19]));(focus rfl);(focus rfl);kernel_rfl;(focus exact of_decide_eq_true (by kernel_rfl));(focus (kernel_rfl));kernel_rfl;intro _)|((with_reducible apply callI_in T_ok Tryz.func46);(focus (dsimp only [Tryz.f46]));(focus rfl);(focus rfl);kernel_rfl;(focus exact of_decide_eq_true (by kernel_rfl));(focus (kernel_rfl));kernel_rfl;intro _)|((with_reducible refine callK_intro (hl) ?_ ?_ ?_);(focus (with_unfolding_all rfl));kernel_rfl)|((with_reducible refine callI_spec (hnd) ?_ ?_ ?_ ?_);(focus (with_unfolding_all rfl));kernel_rfl;kernel_rfl)|((with_reducible refine callI_spec (hrd) ?_ ?_ ?_ ?_);(focus (with_unfolding_all rfl));kernel_rfl;kernel_rfl)|((with_reducible refine callK_intro (hbs) ?_ ?_ ?_);(focus (((repeat' (first |exact ta_n|refine ta_a ?_|refine ta_d ?_));done)));kernel_rfl)|(with_reducible refine fin2_intro ?_)|((with_reducible refine aw_condM ?_ ?_);kernel_rfl)|(with_reducible refine aw_ret ?_) );simp only [↓avP,avQ,avR,forall_const,implies_true,Nat.reduceEqDiff,Nat.reduceAdd,Nat.reduceSub,Nat.reduceLeDiff,reduceCtorEq,↓earlyL.eq_def,avS,peer_h,stC,rowP,cellsC,netD_B,pkD_B,actD_V,handS,hd_dr,↓zH_one,zH_map,ty_H,ty_3,ty_28,ty_64,ty_38,ty_22,ty_56,ty_49,ty_26,ty_52,ty_50,hb,hi,hg]))
   have hset:setPeer r.peers (i:Int) h=r.peers:=by
    unfold setPeer learnL
    rw [Int.toNat_natCast,hP,if_pos hf,← hP]
    simp [List.getD_eq_getElem?_getD,List.getElem?_eq_getElem hil]
   rw [hset]
   refine wk_of [(0,some 0),(1,some 1),(2,some 2),(3,some 3)] rfl rfl ?_ ?_
   ·simp only [wkA,reduceIte,Nat.reduceEqDiff]
    (repeat' (first |exact subVs_fl _ _|exact subVs_d _ _|refine And.intro ?_ ?_))
   ·simp only [wkA,reduceIte,Nat.reduceEqDiff]
    (repeat' (first |exact subVs_fl _ _|exact subVs_d _ _|refine And.intro ?_ ?_))
 |false=>
   rw [hf] at hbs
   have hclone:=cloneH_spec (P.map handD) (handD default) (handD default) (by simp;omega)
   have hnd2:=gneed_spec 2
   have hlim:decide ((P.length:Int) < 4096)=true:=decide_eq_true (by omega)
   have hi1:lbH P h≤(P.map handD).length:=by rw [List.length_map];exact lbH_le P h
   have hi2:(P.map handD).length≤1048576:=by rw [List.length_map];omega
   have hi3:∀ y∈P.map handD,y.length=42:=fun y hy=>by obtain ⟨z,_,rfl⟩:=List.mem_map.1 hy;exact hd_ln z
   repeat' (first |(with_reducible first |refine aw_seq ?_|refine two_t ?_|refine two_f ?_)|((with_reducible refine And.intro ?_ ?_);(focus (first |omega|rfl|decide)))|((first |((with_reducible refine aw_regionA T_ok ?_ ?_);kernel_rfl)|((with_reducible refine aw_drawnEA (id:=1) [(14,12),(15,13)] [] T_ok ?_ ?_ ?_ ?_ ?_);kernel_rfl;kernel_rfl;(focus (decide+kernel));kernel_rfl)|((with_reducible refine aw_drawnM (id:=5) 0 33 6 [0,1,2,3,4,5,6,7,8] [9,10,11,12] T_ok ?_ ?_ ?_ ?_ ?_ ?_ ?_ ?_);(focus rfl);kernel_rfl;kernel_rfl;(focus (decide+kernel));(focus (decide+kernel));(focus rfl);(focus (decide+kernel)))|((with_reducible refine aw_drawnA T_ok ?_ ?_ ?_ ?_);kernel_rfl;kernel_rfl;(focus (decide+kernel)))|((with_reducible apply callI_in T_ok Tryz.func19);(focus (dsimp only [Tryz.f19]));(focus rfl);(focus rfl);kernel_rfl;(focus exact of_decide_eq_true (by kernel_rfl));(focus (kernel_rfl));kernel_rfl;intro _)|((with_reducible apply callI_in T_ok Tryz.func46);(focus (dsimp only [Tryz.f46]));(focus rfl);(focus rfl);kernel_rfl;(focus exact of_decide_eq_true (by kernel_rfl));(focus (kernel_rfl));kernel_rfl;intro _)|((with_reducible refine callK_intro (hl) ?_ ?_ ?_);(focus (with_unfolding_all rfl));kernel_rfl)|((with_reducible refine callI_spec (hnd) ?_ ?_ ?_ ?_);(focus (with_unfolding_all rfl));kernel_rfl;kernel_rfl)|((with_reducible refine callI_spec (hnd2) ?_ ?_ ?_ ?_);(focus (with_unfolding_all rfl));kernel_rfl;kernel_rfl)|((with_reducible refine callI_spec (hrd) ?_ ?_ ?_ ?_);(focus (with_unfolding_all rfl));kernel_rfl;kernel_rfl)|((with_reducible refine callK_intro (hbs) ?_ ?_ ?_);(focus (((repeat' (first |exact ta_n|refine ta_a ?_|refine ta_d ?_));done)));kernel_rfl)|((with_reducible refine callK_own (hclone) (by with_unfolding_all rfl) ?_ ?_);kernel_rfl)|((with_reducible refine callI_insH (d0:=dV (handD default)) (dd:=handD default) (es:=P.map handD) (x:=handD h) ?_ ?_ ?_ ?_ ?_ ?_ ?_ ?_ ?_);kernel_rfl;(focus rfl);(focus rfl);(focus decide);(focus exact hi1);(focus exact hi2);(focus exact hi3);(focus exact hd_ln _))|(with_reducible first |refine fin2_intro ?_|refine aw_skip ?_)|((with_reducible refine aw_condM ?_ ?_);kernel_rfl) );simp only [↓avP,avQ,avR,forall_const,implies_true,Nat.reduceEqDiff,Nat.reduceAdd,Nat.reduceSub,Nat.reduceLeDiff,Nat.reduceLT,reduceCtorEq,↓earlyL.eq_def,avS,peer_h,stC,rowP,cellsC,netD_B,pkD_B,actD_V,handS,hd_dr,↓zH_one,zH_map,↓zH_D,ty_H,ty_3,ty_28,ty_64,ty_38,ty_22,ty_56,ty_49,ty_26,ty_52,ty_50,hb,hi,hg,hlim]))
   rw [set_rowP hP hf]
   refine wk_of [(0,some 0),(1,some 1),(2,some 2),(3,some 3)] rfl rfl ?_ ?_
   ·simp only [wkA,reduceIte,Nat.reduceEqDiff]
    (repeat' (first |exact subVs_fl _ _|exact subVs_d _ _|refine And.intro ?_ ?_))
   ·simp only [wkA,reduceIte,Nat.reduceEqDiff]
    (repeat' (first |exact subVs_fl _ _|exact subVs_d _ _|refine And.intro ?_ ?_))

theorem tell_no1 (w:World) (F:Ft) (d:Deferred) (gh:Nat→Value) (r:RoomP) (a:ActP) (hin:inR r a.peer=false):
  callP Tryz.prog (Bdo w F d gh) 17 [.ptr 2 0,.agg (dV (actD a))] (errP 1) (sAt 17 a r) (fun s'=>Wk Tryz.prog (Bdo w F d gh) s' sBad) ⟨⟩:=by
 have hnd:=gneedP 1
 unfold inR at hin
 by_cases h0:a.peer≥0
 ·have hd0:decide (a.peer≥0)=true:=decide_eq_true h0
  have hd1:decide (a.peer < (r.peers.length:Int))=false:=by rw [hd0,Bool.true_and] at hin;exact hin
  repeat' (first |(with_reducible refine aw_seq ?_)|((first |((with_reducible refine aw_regionP (id:=1) (errP 1) T_ok ?_ ?_);kernel_rfl)|((with_reducible refine aw_regionA T_ok ?_ ?_);kernel_rfl)|((with_reducible apply callP_in Tryz.func17);(focus (dsimp only [Tryz.f17]));(focus rfl);kernel_rfl;(focus exact of_decide_eq_true (by kernel_rfl));intro _) );simp only [↓avP,avQ,avR,forall_const,implies_true,Nat.reduceEqDiff,Nat.reduceAdd,reduceCtorEq,↓rwpP.eq_def,inP,stC,rowP,cellsC,actD_V,ty_3,ty_61,ty_38]))
  repeat' (((first |((with_reducible refine aw_regionP (id:=0) (errP 1) T_ok ?_ ?_);kernel_rfl)|((with_reducible apply callP_in Tryz.func43);(focus (dsimp only [Tryz.f43]));(focus rfl);kernel_rfl;(focus exact of_decide_eq_true (by kernel_rfl));intro _)|((with_reducible refine callP_fz (hnd) ?_ ?_ ?_);(focus (repeat' (first |(exact FzA.nil)|(refine FzA.one ?_ ?_)|(exact Fz.d rfl)));done);kernel_rfl) );simp only [↓avP,avQ,avR,forall_const,implies_true,Nat.reduceEqDiff,Nat.reduceAdd,Nat.reduceSub,Nat.reduceLeDiff,reduceCtorEq,↓rwpP.eq_def,inP,ty_28,ty_64,ty_22,hd0,hd1]))
  refine wk_of [(0,some 0),(1,some 1)] rfl rfl ?_ ?_
  ·simp only [wkA,reduceIte,Nat.reduceEqDiff]
   (repeat' (first |exact subVs_fl _ _|exact trivial|rfl|exact rfl|exact subVs_d _ _|exact subVs_dm _ _|exact subD_refl _|refine And.intro ?_ ?_))
  ·simp only [wkA,reduceIte,Nat.reduceEqDiff]
   (repeat' (first |exact subVs_fl _ _|exact trivial|rfl|exact rfl|exact subVs_d _ _|exact subVs_dm _ _|exact subD_refl _|refine And.intro ?_ ?_))
 ·have hd0:decide (a.peer≥0)=false:=decide_eq_false h0
  repeat' (first |(with_reducible refine aw_seq ?_)|((first |((with_reducible refine aw_regionP (id:=1) (errP 1) T_ok ?_ ?_);kernel_rfl)|((with_reducible refine aw_regionA T_ok ?_ ?_);kernel_rfl)|((with_reducible apply callP_in Tryz.func17);(focus (dsimp only [Tryz.f17]));(focus rfl);kernel_rfl;(focus exact of_decide_eq_true (by kernel_rfl));intro _) );simp only [↓avP,avQ,avR,forall_const,implies_true,Nat.reduceEqDiff,Nat.reduceAdd,reduceCtorEq,↓rwpP.eq_def,inP,stC,rowP,cellsC,actD_V,ty_3,ty_61,ty_38]))
  repeat' (((first |((with_reducible refine aw_regionP (id:=0) (errP 1) T_ok ?_ ?_);kernel_rfl)|((with_reducible apply callP_in Tryz.func43);(focus (dsimp only [Tryz.f43]));(focus rfl);kernel_rfl;(focus exact of_decide_eq_true (by kernel_rfl));intro _)|((with_reducible refine callP_fz (hnd) ?_ ?_ ?_);(focus (repeat' (first |(exact FzA.nil)|(refine FzA.one ?_ ?_)|(exact Fz.d rfl)));done);kernel_rfl) );simp only [↓avP,avQ,avR,forall_const,implies_true,Nat.reduceEqDiff,Nat.reduceAdd,Nat.reduceSub,Nat.reduceLeDiff,reduceCtorEq,↓rwpP.eq_def,inP,ty_28,ty_64,ty_22,hd0]))
  refine wk_of [(0,some 0),(1,some 1)] rfl rfl ?_ ?_
  ·simp only [wkA,reduceIte,Nat.reduceEqDiff]
   (repeat' (first |exact subVs_fl _ _|exact trivial|rfl|exact rfl|exact subVs_d _ _|exact subVs_dm _ _|exact subD_refl _|refine And.intro ?_ ?_))
  ·simp only [wkA,reduceIte,Nat.reduceEqDiff]
   (repeat' (first |exact subVs_fl _ _|exact trivial|rfl|exact rfl|exact subVs_d _ _|exact subVs_dm _ _|exact subD_refl _|refine And.intro ?_ ?_))
theorem tell_no2 (w:World) (F:Ft) (d:Deferred) (gh:Nat→Value) (r:RoomP) (a:ActP) (hin:inR r a.peer=true) (hm:hOk a.hand) (hf:formB a.hand=false):
  callP Tryz.prog (Bdo w F d gh) 17 [.ptr 2 0,.agg (dV (actD a))] (errP 480) (sAt 17 a r) (fun s'=>Wk Tryz.prog (Bdo w F d gh) s' sBad) ⟨⟩:=by
 have hnd:=gneedP 480
 have hno:=gneed_spec 1
 have hfs:=gformed_spec a.hand (hOk_many hm)
 rw [hf] at hfs
 unfold inR at hin
 rw [Bool.and_eq_true] at hin
 obtain ⟨hd0,hd1⟩:=hin
 repeat' (first |(with_reducible refine aw_seq ?_)|((first |((with_reducible refine aw_regionP (id:=2) (errP 480) T_ok ?_ ?_);kernel_rfl)|((with_reducible refine aw_regionA T_ok ?_ ?_);kernel_rfl)|((with_reducible apply callP_in Tryz.func17);(focus (dsimp only [Tryz.f17]));(focus rfl);kernel_rfl;(focus exact of_decide_eq_true (by kernel_rfl));intro _)|((with_reducible apply callI_in T_ok Tryz.func43);(focus (dsimp only [Tryz.f43]));(focus rfl);(focus rfl);kernel_rfl;(focus exact of_decide_eq_true (by kernel_rfl));(focus (kernel_rfl));kernel_rfl;intro _)|((with_reducible refine callI_spec (hno) ?_ ?_ ?_ ?_);(focus (with_unfolding_all rfl));kernel_rfl;kernel_rfl)|((with_reducible refine callI_spec (hfs) ?_ ?_ ?_ ?_);(focus (((repeat' (first |exact ta_n|refine ta_a ?_));done)));kernel_rfl;kernel_rfl)|((with_reducible refine callP_fz (hnd) ?_ ?_ ?_);(focus (repeat' (first |(exact FzA.nil)|(refine FzA.one ?_ ?_)|(exact Fz.d rfl)));done);kernel_rfl) );simp only [↓avP,avQ,avR,forall_const,implies_true,Nat.reduceEqDiff,Nat.reduceAdd,Nat.reduceSub,Nat.reduceLeDiff,reduceCtorEq,avS,↓rwpP.eq_def,inP,stC,rowP,cellsC,actD_V,handS,ty_H,ty_3,ty_28,ty_64,ty_61,ty_38,ty_22,hd0,hd1]))
 refine wk_of [(0,some 0),(1,some 1)] rfl rfl ?_ ?_
 ·simp only [wkA,reduceIte,Nat.reduceEqDiff]
  (repeat' (first |exact subVs_fl _ _|exact trivial|rfl|exact rfl|exact subVs_d _ _|exact subVs_dm _ _|exact subD_refl _|refine And.intro ?_ ?_))
 ·simp only [wkA,reduceIte,Nat.reduceEqDiff]
  (repeat' (first |exact subVs_fl _ _|exact trivial|rfl|exact rfl|exact subVs_d _ _|exact subVs_dm _ _|exact subD_refl _|refine And.intro ?_ ?_))
theorem sync_no1 (w:World) (F:Ft) (d:Deferred) (gh:Nat→Value) (r:RoomP) (a:ActP) (hin:inR r a.peer=false):
  callP Tryz.prog (Bdo w F d gh) 18 [.ptr 2 0,.agg (dV (actD a))] (errP 1) (sAt 18 a r) (fun s'=>Wk Tryz.prog (Bdo w F d gh) s' sBad) ⟨⟩:=by
 have hnd:=gneedP 1
 unfold inR at hin
 by_cases h0:a.peer≥0
 ·have hd0:decide (a.peer≥0)=true:=decide_eq_true h0
  have hd1:decide (a.peer < (r.peers.length:Int))=false:=by rw [hd0,Bool.true_and] at hin;exact hin
  repeat' (first |(with_reducible refine aw_seq ?_)|((first |((with_reducible refine aw_regionP (id:=1) (errP 1) T_ok ?_ ?_);kernel_rfl)|((with_reducible refine aw_regionA T_ok ?_ ?_);kernel_rfl)|((with_reducible apply callP_in Tryz.func18);(focus (dsimp only [Tryz.f18]));(focus rfl);kernel_rfl;(focus exact of_decide_eq_true (by kernel_rfl));intro _) );simp only [↓avP,avQ,avR,forall_const,implies_true,Nat.reduceEqDiff,Nat.reduceAdd,reduceCtorEq,↓rwpP.eq_def,inP,stC,rowP,cellsC,actD_V,ty_3,ty_61,ty_38]))
  repeat' (((first |((with_reducible refine aw_regionP (id:=0) (errP 1) T_ok ?_ ?_);kernel_rfl)|((with_reducible apply callP_in Tryz.func43);(focus (dsimp only [Tryz.f43]));(focus rfl);kernel_rfl;(focus exact of_decide_eq_true (by kernel_rfl));intro _)|((with_reducible refine callP_fz (hnd) ?_ ?_ ?_);(focus (repeat' (first |(exact FzA.nil)|(refine FzA.one ?_ ?_)|(exact Fz.d rfl)));done);kernel_rfl) );simp only [↓avP,avQ,avR,forall_const,implies_true,Nat.reduceEqDiff,Nat.reduceAdd,Nat.reduceSub,Nat.reduceLeDiff,reduceCtorEq,↓rwpP.eq_def,inP,ty_28,ty_64,ty_22,hd0,hd1]))
  refine wk_of [(0,some 0),(1,some 1)] rfl rfl ?_ ?_
  ·simp only [wkA,reduceIte,Nat.reduceEqDiff]
   (repeat' (first |exact subVs_fl _ _|exact trivial|rfl|exact rfl|exact subVs_d _ _|exact subVs_dm _ _|exact subD_refl _|refine And.intro ?_ ?_))
  ·simp only [wkA,reduceIte,Nat.reduceEqDiff]
   (repeat' (first |exact subVs_fl _ _|exact trivial|rfl|exact rfl|exact subVs_d _ _|exact subVs_dm _ _|exact subD_refl _|refine And.intro ?_ ?_))
 ·have hd0:decide (a.peer≥0)=false:=decide_eq_false h0
  repeat' (first |(with_reducible refine aw_seq ?_)|((first |((with_reducible refine aw_regionP (id:=1) (errP 1) T_ok ?_ ?_);kernel_rfl)|((with_reducible refine aw_regionA T_ok ?_ ?_);kernel_rfl)|((with_reducible apply callP_in Tryz.func18);(focus (dsimp only [Tryz.f18]));(focus rfl);kernel_rfl;(focus exact of_decide_eq_true (by kernel_rfl));intro _) );simp only [↓avP,avQ,avR,forall_const,implies_true,Nat.reduceEqDiff,Nat.reduceAdd,reduceCtorEq,↓rwpP.eq_def,inP,stC,rowP,cellsC,actD_V,ty_3,ty_61,ty_38]))
  repeat' (((first |((with_reducible refine aw_regionP (id:=0) (errP 1) T_ok ?_ ?_);kernel_rfl)|((with_reducible apply callP_in Tryz.func43);(focus (dsimp only [Tryz.f43]));(focus rfl);kernel_rfl;(focus exact of_decide_eq_true (by kernel_rfl));intro _)|((with_reducible refine callP_fz (hnd) ?_ ?_ ?_);(focus (repeat' (first |(exact FzA.nil)|(refine FzA.one ?_ ?_)|(exact Fz.d rfl)));done);kernel_rfl) );simp only [↓avP,avQ,avR,forall_const,implies_true,Nat.reduceEqDiff,Nat.reduceAdd,Nat.reduceSub,Nat.reduceLeDiff,reduceCtorEq,↓rwpP.eq_def,inP,ty_28,ty_64,ty_22,hd0]))
  refine wk_of [(0,some 0),(1,some 1)] rfl rfl ?_ ?_
  ·simp only [wkA,reduceIte,Nat.reduceEqDiff]
   (repeat' (first |exact subVs_fl _ _|exact trivial|rfl|exact rfl|exact subVs_d _ _|exact subVs_dm _ _|exact subD_refl _|refine And.intro ?_ ?_))
  ·simp only [wkA,reduceIte,Nat.reduceEqDiff]
   (repeat' (first |exact subVs_fl _ _|exact trivial|rfl|exact rfl|exact subVs_d _ _|exact subVs_dm _ _|exact subD_refl _|refine And.intro ?_ ?_))
theorem sync_no2 (w:World) (F:Ft) (d:Deferred) (gh:Nat→Value) (r:RoomP) (a:ActP) (hin0:inR r a.peer=true) (hin:inR r a.to_=false):
  callP Tryz.prog (Bdo w F d gh) 18 [.ptr 2 0,.agg (dV (actD a))] (errP 1) (sAt 18 a r) (fun s'=>Wk Tryz.prog (Bdo w F d gh) s' sBad) ⟨⟩:=by
 have hnd:=gneedP 1
 have hno:=gneed_spec 1
 unfold inR at hin hin0
 rw [Bool.and_eq_true] at hin0
 obtain ⟨he0,he1⟩:=hin0
 by_cases h0:a.to_≥0
 ·have hd0:decide (a.to_≥0)=true:=decide_eq_true h0
  have hd1:decide (a.to_ < (r.peers.length:Int))=false:=by rw [hd0,Bool.true_and] at hin;exact hin
  repeat' (first |(with_reducible refine aw_seq ?_)|((first |((with_reducible refine aw_regionP (id:=2) (errP 1) T_ok ?_ ?_);kernel_rfl)|((with_reducible refine aw_regionA T_ok ?_ ?_);kernel_rfl)|((with_reducible apply callP_in Tryz.func18);(focus (dsimp only [Tryz.f18]));(focus rfl);kernel_rfl;(focus exact of_decide_eq_true (by kernel_rfl));intro _)|((with_reducible apply callI_in T_ok Tryz.func43);(focus (dsimp only [Tryz.f43]));(focus rfl);(focus rfl);kernel_rfl;(focus exact of_decide_eq_true (by kernel_rfl));(focus (kernel_rfl));kernel_rfl;intro _)|((with_reducible refine callI_spec (hno) ?_ ?_ ?_ ?_);(focus (with_unfolding_all rfl));kernel_rfl;kernel_rfl) );simp only [↓avP,avQ,avR,forall_const,implies_true,Nat.reduceEqDiff,Nat.reduceAdd,Nat.reduceSub,Nat.reduceLeDiff,reduceCtorEq,avS,↓rwpP.eq_def,inP,stC,rowP,cellsC,actD_V,ty_3,ty_28,ty_64,ty_61,ty_38,ty_22,he0,he1]))
  repeat' (((first |((with_reducible refine aw_regionP (id:=0) (errP 1) T_ok ?_ ?_);kernel_rfl)|((with_reducible apply callP_in Tryz.func43);(focus (dsimp only [Tryz.f43]));(focus rfl);kernel_rfl;(focus exact of_decide_eq_true (by kernel_rfl));intro _)|((with_reducible refine callP_fz (hnd) ?_ ?_ ?_);(focus (repeat' (first |(exact FzA.nil)|(refine FzA.one ?_ ?_)|(exact Fz.d rfl)));done);kernel_rfl) );simp only [↓avP,avQ,avR,forall_const,implies_true,Nat.reduceEqDiff,Nat.reduceAdd,Nat.reduceSub,Nat.reduceLeDiff,reduceCtorEq,↓rwpP.eq_def,inP,ty_28,ty_64,ty_22,hd0,hd1]))
  refine wk_of [(0,some 0),(1,some 1)] rfl rfl ?_ ?_
  ·simp only [wkA,reduceIte,Nat.reduceEqDiff]
   (repeat' (first |exact subVs_fl _ _|exact trivial|rfl|exact rfl|exact subVs_d _ _|exact subVs_dm _ _|exact subD_refl _|refine And.intro ?_ ?_))
  ·simp only [wkA,reduceIte,Nat.reduceEqDiff]
   (repeat' (first |exact subVs_fl _ _|exact trivial|rfl|exact rfl|exact subVs_d _ _|exact subVs_dm _ _|exact subD_refl _|refine And.intro ?_ ?_))
 ·have hd0:decide (a.to_≥0)=false:=decide_eq_false h0
  repeat' (first |(with_reducible refine aw_seq ?_)|((first |((with_reducible refine aw_regionP (id:=2) (errP 1) T_ok ?_ ?_);kernel_rfl)|((with_reducible refine aw_regionA T_ok ?_ ?_);kernel_rfl)|((with_reducible apply callP_in Tryz.func18);(focus (dsimp only [Tryz.f18]));(focus rfl);kernel_rfl;(focus exact of_decide_eq_true (by kernel_rfl));intro _)|((with_reducible apply callI_in T_ok Tryz.func43);(focus (dsimp only [Tryz.f43]));(focus rfl);(focus rfl);kernel_rfl;(focus exact of_decide_eq_true (by kernel_rfl));(focus (kernel_rfl));kernel_rfl;intro _)|((with_reducible refine callI_spec (hno) ?_ ?_ ?_ ?_);(focus (with_unfolding_all rfl));kernel_rfl;kernel_rfl) );simp only [↓avP,avQ,avR,forall_const,implies_true,Nat.reduceEqDiff,Nat.reduceAdd,Nat.reduceSub,Nat.reduceLeDiff,reduceCtorEq,avS,↓rwpP.eq_def,inP,stC,rowP,cellsC,actD_V,ty_3,ty_28,ty_64,ty_61,ty_38,ty_22,he0,he1]))
  repeat' (((first |((with_reducible refine aw_regionP (id:=0) (errP 1) T_ok ?_ ?_);kernel_rfl)|((with_reducible apply callP_in Tryz.func43);(focus (dsimp only [Tryz.f43]));(focus rfl);kernel_rfl;(focus exact of_decide_eq_true (by kernel_rfl));intro _)|((with_reducible refine callP_fz (hnd) ?_ ?_ ?_);(focus (repeat' (first |(exact FzA.nil)|(refine FzA.one ?_ ?_)|(exact Fz.d rfl)));done);kernel_rfl) );simp only [↓avP,avQ,avR,forall_const,implies_true,Nat.reduceEqDiff,Nat.reduceAdd,Nat.reduceSub,Nat.reduceLeDiff,reduceCtorEq,↓rwpP.eq_def,inP,ty_28,ty_64,ty_22,hd0]))
  refine wk_of [(0,some 0),(1,some 1)] rfl rfl ?_ ?_
  ·simp only [wkA,reduceIte,Nat.reduceEqDiff]
   (repeat' (first |exact subVs_fl _ _|exact trivial|rfl|exact rfl|exact subVs_d _ _|exact subVs_dm _ _|exact subD_refl _|refine And.intro ?_ ?_))
  ·simp only [wkA,reduceIte,Nat.reduceEqDiff]
   (repeat' (first |exact subVs_fl _ _|exact trivial|rfl|exact rfl|exact subVs_d _ _|exact subVs_dm _ _|exact subD_refl _|refine And.intro ?_ ?_))
theorem sync_no3 (w:World) (F:Ft) (d:Deferred) (gh:Nat→Value) (r:RoomP) (a:ActP) (hin0:inR r a.peer=true) (hin:inR r a.to_=true) (heq:a.peer=a.to_):
  callP Tryz.prog (Bdo w F d gh) 18 [.ptr 2 0,.agg (dV (actD a))] (errP 1) (sAt 18 a r) (fun s'=>Wk Tryz.prog (Bdo w F d gh) s' sBad) ⟨⟩:=by
 have hnd:=gneedP 1
 have hno:=gneed_spec 1
 unfold inR at hin hin0
 rw [Bool.and_eq_true] at hin0 hin
 obtain ⟨he0,he1⟩:=hin0
 obtain ⟨hd0,hd1⟩:=hin
 have hne:(a.peer != a.to_)=false:=by simpa using heq
 repeat' (first |(with_reducible refine aw_seq ?_)|((first |((with_reducible refine aw_regionP (id:=3) (errP 1) T_ok ?_ ?_);kernel_rfl)|((with_reducible refine aw_regionA T_ok ?_ ?_);kernel_rfl)|((with_reducible apply callP_in Tryz.func18);(focus (dsimp only [Tryz.f18]));(focus rfl);kernel_rfl;(focus exact of_decide_eq_true (by kernel_rfl));intro _)|((with_reducible apply callI_in T_ok Tryz.func43);(focus (dsimp only [Tryz.f43]));(focus rfl);(focus rfl);kernel_rfl;(focus exact of_decide_eq_true (by kernel_rfl));(focus (kernel_rfl));kernel_rfl;intro _)|((with_reducible refine callI_spec (hno) ?_ ?_ ?_ ?_);(focus (with_unfolding_all rfl));kernel_rfl;kernel_rfl)|((with_reducible refine callP_fz (hnd) ?_ ?_ ?_);(focus (repeat' (first |(exact FzA.nil)|(refine FzA.one ?_ ?_)|(exact Fz.d rfl)));done);kernel_rfl) );simp only [↓avP,avQ,avR,forall_const,implies_true,Nat.reduceEqDiff,Nat.reduceAdd,Nat.reduceSub,Nat.reduceLeDiff,reduceCtorEq,avS,↓rwpP.eq_def,inP,stC,rowP,cellsC,actD_V,ty_3,ty_28,ty_64,ty_61,ty_38,ty_22,he0,he1,hd0,hd1,hne]))
 refine wk_of [(0,some 0),(1,some 1)] rfl rfl ?_ ?_
 ·simp only [wkA,reduceIte,Nat.reduceEqDiff]
  (repeat' (first |exact subVs_fl _ _|exact trivial|rfl|exact rfl|exact subVs_d _ _|exact subVs_dm _ _|exact subD_refl _|refine And.intro ?_ ?_))
 ·simp only [wkA,reduceIte,Nat.reduceEqDiff]
  (repeat' (first |exact subVs_fl _ _|exact trivial|rfl|exact rfl|exact subVs_d _ _|exact subVs_dm _ _|exact subD_refl _|refine And.intro ?_ ?_))
end Go.Proofs.YthidfoohhhkobaaGreat
