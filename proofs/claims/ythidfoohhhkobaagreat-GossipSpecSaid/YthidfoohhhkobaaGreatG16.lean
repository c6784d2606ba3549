import Derived.Test.YthidfoohhhkobaaGreatG15
import Derived.Test.YthidfoohhhkobaaGreatG12
import Derived.Test.YthidfoohhhkobaaGreatRows
import Derived.WalkKit
import Derived.ProofKit
import Derived.OpenShut
import Derived.Carry
import Derived.ChangeSlices
import Derived.Test.YthidfoohhhkobaaGreatG1
import Derived.SizedLaws
import Derived.Test.YthidfoohhhkobaaGreatG10
import Derived.Test.YthidfoohhhkobaaGreatG11
namespace Go.Proofs.YthidfoohhhkobaaGreat
set_option linter.unusedSimpArgs false
set_option linter.unusedVariables false
open Go.RowKit
set_option maxRecDepth 100000
set_option maxHeartbeats 4000000
def fnOf (k:Int):FuncId:=if k=1 then 17 else if k=2 then 18 else if k=3 then 19 else if k=4 then 20 else 21
theorem netChk_of {r:RoomP} (h:roomChk r=0):netChk r.net=0∧r.peers.length≤24∧(∀ l∈r.peers,knownB l=true)∧∀ p∈r.net.queue,pkB r.peers.length p=true:=by
 unfold roomChk at h
 split at h
 ·cases h
 ·rename_i h1
  split at h
  ·rename_i h2
   rw [Bool.and_eq_true] at h2
   exact ⟨by omega,by omega,fun l hl=>List.all_eq_true.1 h2.1 l hl,fun p hp=>List.all_eq_true.1 h2.2 p hp⟩
  ·cases h
theorem ord_known {l:List Hd} (h:knownB l=true):ordH l:=by
 unfold knownB at h
 rw [Bool.and_eq_true] at h
 have h1:=List.all_eq_true.1 h.1
 have key:∀ (n i j:Nat),j=i+n+1→j < l.length→befB (l.getD i default) (l.getD j default)=true:=by
  intro n
  induction n with
  |zero=>
    intro i j hj hl
    have:=h1 j (by simpa using hl)
    unfold knownAt at this
    rw [Bool.and_eq_true,Bool.or_eq_true] at this
    rcases this.2 with h|h
    ·have:=of_decide_eq_true h;omega
    ·rw [show j - 1=i by omega] at h;exact h
  |succ n ih=>
    intro i j hj hl
    exact bef_trans (ih i (j - 1) (by omega) (by omega)) (by
     have:=h1 j (by simpa using hl)
     unfold knownAt at this
     rw [Bool.and_eq_true,Bool.or_eq_true] at this
     rcases this.2 with h|h
     ·have:=of_decide_eq_true h;omega
     ·exact h)
 unfold ordH
 rw [List.pairwise_iff_getElem]
 intro i j hi hj hij
 have:=key (j - i - 1) i j (by omega) hj
 rwa [getD_atH hi,getD_atH hj] at this
theorem pk_to {r:RoomP} {p:Pk} (h:pkB r.peers.length p=true):(readH p.data).2=true∧p.to_ < r.peers.length:=by
 unfold pkB at h
 rw [Bool.and_eq_true,Bool.not_eq_true'] at h
 refine ⟨h.1,?_⟩
 have:=of_decide_eq_false h.2
 split at this<;>omega
theorem pk_pos {p:Pk} (h:packetB p=true):0≤p.to_∧0≤p.frm:=by
 unfold packetB linkB mm at h
 simp only [Bool.and_eq_true,decide_eq_true_eq] at h
 obtain ⟨⟨⟨h1,h2⟩,h3⟩,h4⟩:=h
 split at h1<;>split at h2<;>omega
theorem hOk_setF (i:Nat) {e:Cd.V} {h:Hd} (he:Cd.i64R (vN e)) (hh:hOk h):hOk (setF i e h):=by
 obtain ⟨h1,h2,h3,h4,h5,h6,h7,h8,h9,h10⟩:=hh
 unfold setF
 split<;>(refine ⟨?_,?_,?_,?_,?_,?_,?_,?_,?_,?_⟩<;>first |exact he|assumption)
theorem hOk_hS {l:List Cd.V} (hl:∀ i,Cd.i64R (vN (elAt l i))):∀ k,hOk (hS l k)
 |0=>hOk_zero
 |k+1=>hOk_setF k (hl k) (hOk_hS hl k)
theorem read_hOk {b:List UInt8} (hb:b.length≤1000000):hOk (readH b).1:=by
 unfold readH
 cases hd:Cd.dec b with
 |none=>exact hOk_zero
 |some v=>
   have hv:=dec_fits hb hd
   show hOk (rdV v).1
   unfold rdV
   split
   ·refine hOk_hS (fun i=>?_) _
    rcases Nat.lt_or_ge i (vL v).length with h|h
    ·obtain ⟨k,n,t,l⟩:=v
     simp only [Cd.V.fits] at hv
     exact vN_R (fits_at l i hv.2.2.2.2 h)
    ·unfold elAt
     rw [List.getD_eq_getElem?_getD,List.getElem?_eq_none h]
     exact ⟨by decide,by decide⟩
   ·exact hOk_zero
section
variable {w:World} {F:Ft} {d:Deferred} {gh:Nat→Value} {r:RoomP} {a:ActP}
theorem act_ok (ho:okRoom r) (hc:roomChk r=0) (hf:fewR r) (ha:hOk a.hand) (hE:doE r a=0):callI Tryz.prog (Bdo w F d gh) (fnOf a.kind) [.ptr 2 0,.agg (dV (actD a))] (some 37) (sAt (fnOf a.kind) a r) (fun s'=>Wk Tryz.prog (Bdo w F d gh) s' (sTo (doR r a))) ⟨⟩:=by
 obtain ⟨n1,n2,n3,n4⟩:=netChk_of hc
 have hR:doR r a=actR r a:=by rw [doR,if_pos hE]
 have hA:actE r a=0:=by have:=hE;unfold doE at this;rw [if_neg (by omega)] at this;exact this
 have hp:∀ l∈r.peers,l.length≤1000∧ordH l∧∀ x∈l,hOk x:=fun l hl=>⟨hf.2 l hl,ord_known (n3 l hl),(ho.2.1 l hl).2⟩
 rw [hR]
 unfold actE at hA
 unfold fnOf
 by_cases k1:a.kind=1
 ·rw [show actR r a=⟨setPeer r.peers a.peer a.hand,⟨r.net.queue++tellPk r.peers.length a.peer a.hand,r.net.apart⟩⟩ by unfold actR;rw [if_pos k1]]
  simp only [if_pos k1] at hA ⊢
  split at hA
  ·cases hA
  rename_i h1
  split at hA
  ·cases hA
  rename_i h2
  exact tell_ok w F d gh r a (by simpa using h1) ha (by simpa using h2) hp n1 hf.1 n2 ho.2.2.1
 simp only [if_neg k1] at hA ⊢
 by_cases k2:a.kind=2
 ·rw [show actR r a=⟨r.peers,⟨r.net.queue++syncPk (r.peers.getD a.peer.toNat []) a.peer a.to_,r.net.apart⟩⟩ by unfold actR;rw [if_neg k1,if_pos k2]]
  simp only [if_pos k2] at hA ⊢
  split at hA
  ·cases hA
  rename_i h1
  refine sync_ok w F d gh r a ?_ ?_ ?_ (fun l hl=>⟨(hp l hl).1,(hp l hl).2.2⟩) n1 hf.1 n2 ho.2.2.1
  ·cases hx:inR r a.peer with|true=>rfl|false=>exact absurd (.inl hx) h1
  ·cases hx:inR r a.to_ with|true=>rfl|false=>exact absurd (.inr (.inl hx)) h1
  ·exact fun e=>h1 (.inr (.inr e))
 simp only [if_neg k2] at hA ⊢
 by_cases k3:a.kind=3
 ·rw [show actR r a=⟨if (delP r.net a.at_).frm=(delP r.net a.at_).to_ then r.peers else setPeer r.peers (delP r.net a.at_).to_ (readH (delP r.net a.at_).data).1,loseN r.net a.at_⟩ by unfold actR;rw [if_neg k1,if_neg k2,if_pos k3]]
  simp only [k3,if_true,true_or] at hA ⊢
  have hq:atP r.net a.at_∈r.net.queue:=by
   obtain ⟨i,hi,hl⟩:=at_lt hA
   unfold atP
   rw [if_pos hA,hi,Int.toNat_natCast]
   exact mem_getD hl
  have hpb:packetB (atP r.net a.at_)=true:=by
   have:=n1
   unfold netChk at this
   split at this
   ·cases this
   ·rename_i hn
    cases hx:packetB (atP r.net a.at_) with
    |true=>rfl
    |false=>exact absurd (.inr (List.any_eq_true.2 ⟨_,hq,by rw [hx];rfl⟩)) hn
  have hlen:(delP r.net a.at_).data.length≤1000000:=by
   unfold delP
   split
   ·exact Nat.zero_le _
   ·exact ho.2.2.2 _ hq
  refine deliver_ok w F d gh r a ho.2.2.1 hA hlen (fun hne=>?_) hp
  have he:delP r.net a.at_=atP r.net a.at_:=by
   unfold delP at hne ⊢
   split at hne
   ·exact absurd rfl hne
   ·rename_i hx;rw [if_neg hx]
  rw [he] at hlen ⊢
  exact ⟨(pk_pos hpb).1,(pk_to (n4 _ hq)).2,(pk_to (n4 _ hq)).1,read_hOk hlen⟩
 simp only [if_neg k3] at hA ⊢
 by_cases k4:a.kind=4
 ·rw [show actR r a=⟨r.peers,loseN r.net a.at_⟩ by unfold actR;rw [if_neg k1,if_neg k2,if_neg k3,if_pos k4]]
  simp only [k4,if_true,or_true] at hA ⊢
  exact lose_ok w F d gh r a ho.2.2.1 hA
 simp only [if_neg k4,k3,false_or,if_false] at hA ⊢
 by_cases k5:a.kind=5
 ·rw [show actR r a=⟨r.peers,repN r.net a.at_⟩ by unfold actR;rw [if_neg k1,if_neg k2,if_neg k3,if_neg k4]]
  rw [if_pos k5] at hA
  exact repeat_ok w F d gh r a ho.2.2.1 hA
 ·rw [if_neg k5] at hA;cases hA
theorem act_no (ho:okRoom r) (hc:roomChk r=0) (ha:hOk a.hand) (hk:1≤a.kind∧a.kind≤5) (hE:doE r a≠0):callP Tryz.prog (Bdo w F d gh) (fnOf a.kind) [.ptr 2 0,.agg (dV (actD a))] (errP (doE r a)) (sAt (fnOf a.kind) a r) (fun s'=>Wk Tryz.prog (Bdo w F d gh) s' sBad) ⟨⟩:=by
 have hA:doE r a=actE r a:=by unfold doE;rw [if_neg (by omega)]
 rw [hA] at hE ⊢
 unfold actE at hE ⊢
 unfold fnOf
 by_cases k1:a.kind=1
 ·simp only [if_pos k1] at hE ⊢
  cases hi:inR r a.peer with
  |false=>
    simp only [if_true]
    exact tell_no1 w F d gh r a hi
  |true=>
    simp only [hi,Bool.true_eq_false,if_false] at hE ⊢
    cases hf:formB a.hand with
    |false=>simp only [if_true];exact tell_no2 w F d gh r a hi ha hf
    |true=>simp [hf] at hE
 simp only [if_neg k1] at hE ⊢
 by_cases k2:a.kind=2
 ·simp only [if_pos k2] at hE ⊢
  cases hi:inR r a.peer with
  |false=>simp only [true_or,if_true];exact sync_no1 w F d gh r a hi
  |true=>
    cases hj:inR r a.to_ with
    |false=>simp only [true_or,or_true,if_true];exact sync_no2 w F d gh r a hi hj
    |true=>
      by_cases he:a.peer=a.to_
      ·simp only [he,or_true,if_true]
       exact sync_no3 w F d gh r a hi hj he
      ·simp [hi,hj,he] at hE
 simp only [if_neg k2] at hE ⊢
 by_cases k3:a.kind=3
 ·simp only [k3,if_true,true_or] at hE ⊢
  exact deliver_no w F d gh r a ho.2.2.1 hE
 simp only [if_neg k3] at hE ⊢
 by_cases k4:a.kind=4
 ·simp only [k4,if_true,or_true] at hE ⊢
  exact lose_no w F d gh r a ho.2.2.1 hE
 simp only [if_neg k4,k3,false_or,if_false] at hE ⊢
 have k5:a.kind=5:=by omega
 simp only [k5,if_true] at hE ⊢
 exact repeat_no w F d gh r a ho.2.2.1 hE
end

theorem msg_fits (h:Hd) (hh:hOk h):(msgV h).fits:=by
 obtain ⟨h1,h2,h3,h4,h5,h6,h7,h8,h9,h10⟩:=hh
 have z:∀ n:Int,0≤n→n≤3→Cd.i64R n:=fun n a b=>⟨by omega,by omega⟩
 simp only [msgV,intV,Cd.V.fits,Cd.V.fitss,and_true,List.length_nil,List.length_cons,Vector.length_toList]
 have z0:=z 0 (by omega) (by omega);have z1:=z 1 (by omega) (by omega);have z2:=z 2 (by omega) (by omega);have z3:=z 3 (by omega) (by omega)
 repeat' (first |assumption|exact Nat.zero_lt_succ _|omega|(refine ⟨?_,?_⟩))
theorem dec_msg (h:Hd) (hh:hOk h):Cd.dec (msg h)=some (msgV h):=by
 have:=Cd.V.dec_enc (msgV h) 16 [] (msg_ok h) (by rw [msg_depth];omega) (msg_fits h hh)
 unfold Cd.dec msg
 rw [List.append_nil] at this
 rw [this]
theorem rootOf_toList (r:Vector UInt8 32):rootOf r.toList=r:=by
 unfold rootOf
 rw [dif_pos (by simp)]
 obtain ⟨a,ha⟩:=r
 rfl
theorem read_msg (h:Hd) (hh:hOk h) (hf:formB h=true):readH (msg h)=(h,true):=by
 unfold readH
 rw [dec_msg h hh]
 have hL:vL (msgV h)=[intV h.line,intV h.at_,intV h.arr,intV h.leg,intV h.frm,intV h.to_,intV h.many,.mk 2 0 h.root.toList [],intV h.time,intV h.se,intV h.ss]:=rfl
 have hall:∀ i,i < 11→elOk i (elAt (vL (msgV h)) i)=true:=by
  intro i hi
  rw [hL]
  have:i=0∨i=1∨i=2∨i=3∨i=4∨i=5∨i=6∨i=7∨i=8∨i=9∨i=10:=by omega
  rcases this with rfl|rfl|rfl|rfl|rfl|rfl|rfl|rfl|rfl|rfl|rfl<;>simp [elOk,elAt,intV,vK,vS]
 have hb:badF (vL (msgV h)) 0 11=11:=badF_all _ 11 0 (by simpa using hall)
 have hS11:hS (vL (msgV h)) 11=h:=by
  rw [hL]
  simp only [hS,setF,elAt,List.getD_cons_zero,List.getD_cons_succ,intV,vN,vS,rootOf_toList]
 show rdV (msgV h)=_
 unfold rdV
 rw [if_pos ⟨rfl,rfl⟩,hb,hS11,hf]
 rfl
theorem msg_inj {a b:Hd} (ha:hOk a) (hb:hOk b) (hfa:formB a=true) (hfb:formB b=true) (h:msg a=msg b):a=b:=by
 have h1:=read_msg a ha hfa
 rw [h,read_msg b hb hfb] at h1
 exact (Prod.mk.inj h1).1.symm
def fH (h:Hd):Prop:=formB h=true∧hOk h
theorem bef_irr (h:Hd):befB h h=false:=by unfold befB;rw [cmpB_self];rfl
theorem bef_conn {a b:Hd} (ha:fH a) (hb:fH b) (h1:befB a b=false) (h2:befB b a=false):a=b:=by
 have e1:=of_decide_eq_false h1
 have e2:=of_decide_eq_false h2
 have:=cmpB_tri (msg a) (msg b)
 exact msg_inj ha.2 hb.2 ha.1 hb.1 (cmpB_zero (by omega))
theorem lb_spec (l:List Hd) (h:Hd):(∀ x∈l.take (lbH l h),befB x h=true)∧(∀ hlt:lbH l h < l.length,befB l[lbH l h] h=false):=by
 unfold lbH
 induction l with
 |nil=>simp
 |cons x l ih=>
   rw [List.takeWhile_cons]
   by_cases hx:befB x h=true
   ·rw [if_pos hx]
    refine ⟨fun y hy=>?_,fun hlt=>?_⟩
    ·simp only [List.length_cons,List.take_succ_cons,List.mem_cons] at hy
     rcases hy with rfl|hy
     ·exact hx
     ·exact ih.1 y hy
    ·simpa using ih.2 (by simpa using hlt)
   ·rw [if_neg hx]
    refine ⟨by simp,fun _=>by simpa using hx⟩
theorem mem_learn {l:List Hd} {h x:Hd} (hl:∀ y∈l,fH y) (hh:fH h):x∈learnL l h↔x∈l∨x=h:=by
 unfold learnL
 split
 ·rename_i hf
  refine ⟨.inl,fun hx=>hx.elim id fun e=>?_⟩
  subst e
  unfold foundH at hf
  rw [Bool.and_eq_true,decide_eq_true_eq,beq_iff_eq] at hf
  have hm:l.getD (lbH l x) default∈l:=mem_getD hf.1
  rw [← msg_inj (hl _ hm).2 hh.2 (hl _ hm).1 hh.1 (cmpB_zero hf.2)]
  exact hm
 ·have:x∈l↔x∈l.take (lbH l h)∨x∈l.drop (lbH l h):=by rw [← List.mem_append,List.take_append_drop]
  simp only [List.mem_append,List.mem_singleton,this]
  exact ⟨fun h=>by rcases h with (h|h)|h;exact .inl (.inl h);exact .inr h;exact .inl (.inr h),fun h=>by rcases h with (h|h)|h;exact .inl (.inl h);exact .inr h;exact .inl (.inr h)⟩
theorem ord_learn {l:List Hd} {h:Hd} (ho:ordH l) (hl:∀ y∈l,fH y) (hh:fH h):ordH (learnL l h):=by
 unfold learnL
 split
 ·exact ho
 ·rename_i hf
  obtain ⟨h1,h2⟩:=lb_spec l h
  have hbe:∀ y∈l.drop (lbH l h),befB h y=true:=by
   intro y hy
   obtain ⟨j,hj,rfl⟩:=List.mem_iff_getElem.1 hy
   rw [List.length_drop] at hj
   have hlt:lbH l h < l.length:=by omega
   have hb:=h2 hlt
   have h0:befB h l[lbH l h]=true:=by
    cases hc:befB h l[lbH l h] with
    |true=>rfl
    |false=>
      have e:=bef_conn (hl _ (List.getElem_mem hlt)) hh hb hc
      exfalso
      apply hf
      unfold foundH
      rw [Bool.and_eq_true,decide_eq_true_eq,beq_iff_eq,getD_atH hlt,e]
      exact ⟨hlt,cmpB_self _⟩
   rw [List.getElem_drop]
   by_cases hj0:j=0
   ·subst hj0;exact h0
   ·exact bef_trans h0 (List.pairwise_iff_getElem.1 ho _ _ hlt (by omega) (by omega))
  have ho':ordH (l.take (lbH l h)++l.drop (lbH l h)):=by rw [List.take_append_drop];exact ho
  unfold ordH at ho' ⊢
  rw [List.pairwise_append] at ho'
  rw [List.append_assoc,List.pairwise_append]
  refine ⟨ho'.1,?_,fun a ha b hb=>?_⟩
  ·rw [List.singleton_append,List.pairwise_cons]
   exact ⟨hbe,ho'.2.1⟩
  ·rw [List.singleton_append,List.mem_cons] at hb
   rcases hb with rfl|hb
   ·exact h1 a ha
   ·exact ho'.2.2 a ha b hb
theorem len_learn (l:List Hd) (h:Hd):(learnL l h).length≤l.length+1:=by
 unfold learnL
 split
 ·omega
 ·simp only [List.length_append,List.length_take,List.length_drop,List.length_cons,List.length_nil]
  have:=lbH_le l h
  omega
theorem learn_known {l:List Hd} {h:Hd} (ho:ordH l) (hl:∀ y∈l,fH y) (hm:h∈l):learnL l h=l:=by
 unfold learnL
 rw [if_pos]
 obtain ⟨i,hi,rfl⟩:=List.mem_iff_getElem.1 hm
 have e:lbH l l[i]=i:=lbH_of (by omega) (fun k hk=>by rw [getD_atH (by omega)];exact List.pairwise_iff_getElem.1 ho _ _ _ _ hk) (fun _=>by rw [getD_atH hi];exact bef_irr _)
 unfold foundH
 rw [e,Bool.and_eq_true,decide_eq_true_eq,getD_atH hi,beq_iff_eq]
 exact ⟨hi,cmpB_self _⟩
theorem nodup_le:∀ {a b:List Hd},a.Nodup→(∀ x∈a,x∈b)→a.length≤b.length
 |[],b,_,_=>Nat.zero_le _
 |x :: a,b,h1,h2=>by
   rw [List.nodup_cons] at h1
   have hx:=h2 x (by simp)
   have:=nodup_le (a:=a) (b:=b.erase x) h1.2 fun y hy=>(List.mem_erase_of_ne (fun e=>by subst e;exact h1.1 hy)).2 (h2 y (by simp [hy]))
   rw [List.length_erase_of_mem hx] at this
   have:0 < b.length:=List.length_pos_of_mem hx
   rw [List.length_cons]
   omega
theorem ord_nodup {l:List Hd} (h:ordH l):l.Nodup:=List.Pairwise.imp (fun {a b} hab e=>by subst e;rw [bef_irr] at hab;cases hab) h

structure RInv (n:Nat) (T:List Hd) (r:RoomP):Prop where
 len:r.peers.length=n
 n1:1≤n
 n4:n≤4
 fT:∀ h∈T,fH h
 ord:∀ l∈r.peers,ordH l
 mem:∀ l∈r.peers,∀ h∈l,h∈T
 que:∀ p∈r.net.queue,∃ h,h∈T∧p.data=msg h∧0≤p.frm∧p.frm < n∧0≤p.to_∧p.to_ < n∧p.frm≠p.to_
 apart:r.net.apart=[]
section
variable {n:Nat} {T:List Hd} {r:RoomP}
theorem RInv.lens (h:RInv n T r):∀ l∈r.peers,l.length≤T.length:=fun l hl=>nodup_le (ord_nodup (h.ord l hl)) (h.mem l hl)
theorem RInv.getD (h:RInv n T r) (i:Nat):ordH (r.peers.getD i [])∧(∀ x∈r.peers.getD i [],x∈T)∧(r.peers.getD i []).length≤T.length:=by
 rcases Nat.lt_or_ge i r.peers.length with hi|hi
 ·have:r.peers.getD i []∈r.peers:=mem_getD hi
  exact ⟨h.ord _ this,h.mem _ this,h.lens _ this⟩
 ·rw [List.getD_eq_getElem?_getD,List.getElem?_eq_none hi]
  exact ⟨List.Pairwise.nil,by simp,Nat.zero_le _⟩
theorem RInv.net (h:RInv n T r) (hq:r.net.queue.length≤4096):netChk r.net=0:=by
 unfold netChk
 rw [if_neg,h.apart]
 ·rfl
 ·rintro (hc|hc)
  ·omega
  ·obtain ⟨p,hp,hb⟩:=List.any_eq_true.1 hc
   obtain ⟨x,_,hd,h1,h2,h3,h4,h5⟩:=h.que p hp
   have:=packetB_of (n:=n) (d:=p.data) (by have:=h.n4;omega) h1 h2 h3 h4 h5 (by rw [hd];have:=msg_len x;omega)
   have e:p=⟨p.frm,p.to_,p.data⟩:=rfl
   rw [← e] at this
   rw [this] at hb
   cases hb
theorem RInv.known (h:RInv n T r) (ht:T.length≤4096):r.peers.all knownB=true:=by
 refine List.all_eq_true.2 fun l hl=>?_
 unfold knownB
 rw [Bool.and_eq_true]
 refine ⟨List.all_eq_true.2 fun k hk=>?_,decide_eq_true (by have:=h.lens l hl;omega)⟩
 have hk:k < l.length:=by simpa using hk
 unfold knownAt
 rw [getD_atH hk,(h.fT _ (h.mem l hl _ (List.getElem_mem hk))).1,Bool.true_and,Bool.or_eq_true]
 by_cases h0:k=0
 ·exact .inl (decide_eq_true h0)
 ·refine .inr ?_
  rw [getD_atH (show k - 1 < l.length by omega)]
  exact List.pairwise_iff_getElem.1 (h.ord l hl) _ _ _ _ (by omega)
theorem RInv.chk (h:RInv n T r) (hq:r.net.queue.length≤4096) (ht:T.length≤4096):roomChk r=0:=by
 unfold roomChk
 rw [if_neg,if_pos]
 ·rw [Bool.and_eq_true]
  refine ⟨h.known ht,List.all_eq_true.2 fun p hp=>?_⟩
  obtain ⟨x,hx,hd,h1,h2,h3,h4,h5⟩:=h.que p hp
  unfold pkB
  rw [hd,read_msg x (h.fT x hx).2 (h.fT x hx).1,h.len]
  simp only [Bool.true_and,Bool.not_eq_true']
  exact decide_eq_false (by split<;>omega)
 ·have:=h.net hq
  have:=h.len;have:=h.n1;have:=h.n4
  omega
theorem RInv.ok (h:RInv n T r) (hq:r.net.queue.length≤4096) (ht:T.length≤4096):okRoom r:=by
 refine ⟨by have:=h.len;have:=h.n4;omega,fun l hl=>⟨by have:=h.lens l hl;omega,fun x hx=>(h.fT x (h.mem l hl x hx)).2⟩,⟨by omega,by rw [h.apart];simp⟩,fun p hp=>?_⟩
 obtain ⟨x,_,hd,_⟩:=h.que p hp
 rw [hd]
 have:=msg_len x
 omega
theorem RInv.few (h:RInv n T r) (hq:r.net.queue.length≤3000) (ht:T.length≤1000):fewR r:=⟨hq,fun l hl=>by have:=h.lens l hl;omega⟩
theorem RInv.mono {T':List Hd} (h:RInv n T r) (hT:∀ x∈T,x∈T') (hf:∀ x∈T',fH x):RInv n T' r:=
 ⟨h.len,h.n1,h.n4,hf,h.ord,fun l hl x hx=>hT x (h.mem l hl x hx),fun p hp=>by obtain ⟨x,h1,h2⟩:=h.que p hp;exact ⟨x,hT x h1,h2⟩,h.apart⟩
theorem RInv.nw {n:Int} (h1:1≤n) (h4:n≤4):RInv n.toNat [] (newR n):=by
 unfold newR
 rw [if_neg (by omega)]
 exact ⟨by simp,by omega,by omega,by simp,fun l hl=>by rw [(List.mem_replicate.1 hl).2];exact List.Pairwise.nil,fun l hl=>by rw [(List.mem_replicate.1 hl).2];simp,by simp,rfl⟩
theorem setPeer_len (l:List (List Hd)) (i:Int) (h:Hd):(setPeer l i h).length=l.length:=by unfold setPeer;simp
theorem setPeer_get (l:List (List Hd)) (i:Int) (h:Hd) (k:Nat):(setPeer l i h).getD k []=if i.toNat=k∧k < l.length then learnL (l.getD k []) h else l.getD k []:=by
 unfold setPeer
 simp only [List.getD_eq_getElem?_getD,List.getElem?_set]
 by_cases hk:k < l.length
 ·by_cases e:i.toNat=k
  ·subst e;simp [hk]
  ·simp [e]
 ·by_cases e:i.toNat=k
  ·subst e;simp [hk]
  ·simp [e]
theorem setPeer_mem {l:List (List Hd)} {i:Int} {h:Hd} {x:List Hd} (hx:x∈setPeer l i h) (hi:i.toNat < l.length):x∈l∨x=learnL (l.getD i.toNat []) h:=by
 unfold setPeer at hx
 exact (List.mem_or_eq_of_mem_set hx)
theorem RInv.learn {i:Int} {x:Hd} {q:List Pk} (h:RInv n T r) (hi:0≤i) (hin:i < n) (hx:x∈T) (hq:∀ p∈q,p∈r.net.queue∨∃ h,h∈T∧p.data=msg h∧0≤p.frm∧p.frm < n∧0≤p.to_∧p.to_ < n∧p.frm≠p.to_):RInv n T ⟨setPeer r.peers i x,⟨q,r.net.apart⟩⟩:=by
 have hil:i.toNat < r.peers.length:=by rw [h.len];omega
 obtain ⟨g1,g2,g3⟩:=h.getD i.toNat
 have gf:∀ y∈r.peers.getD i.toNat [],fH y:=fun y hy=>h.fT y (g2 y hy)
 refine ⟨by rw [setPeer_len,h.len],h.n1,h.n4,h.fT,fun l hl=>?_,fun l hl y hy=>?_,fun p hp=>(hq p hp).elim (h.que p) id,h.apart⟩
 ·rcases setPeer_mem hl hil with hl|rfl
  ·exact h.ord l hl
  ·exact ord_learn g1 gf (h.fT x hx)
 ·rcases setPeer_mem hl hil with hl|rfl
  ·exact h.mem l hl y hy
  ·rcases (mem_learn gf (h.fT x hx)).1 hy with hy|rfl
   ·exact g2 y hy
   ·exact hx
def smR (T:List Hd) (r:RoomP):Prop:=r.net.queue.length≤3000∧T.length≤1000
theorem RInv.do (h:RInv n T r) (hs:smR T r) (a:ActP):doE r a=actE r a:=by
 unfold doE
 rw [h.chk (by have:=hs.1;omega) (by have:=hs.2;omega)]
 rfl
theorem RInv.atE (h:RInv n T r) (hs:smR T r) {i:Int}:atErr r.net i=if i < 0∨i≥r.net.queue.length then 1 else 0:=by
 unfold atErr
 rw [h.net (by have:=hs.1;omega)]
 rfl
theorem at_in (h:RInv n T r) (hs:smR T r) {i:Int} (h0:atErr r.net i=0):0≤i∧i.toNat < r.net.queue.length∧delP r.net i=r.net.queue.getD i.toNat default:=by
 have h1:=h0
 rw [h.atE hs] at h1
 split at h1
 ·cases h1
 ·refine ⟨by omega,by omega,?_⟩
  unfold delP atP
  rw [if_pos h0,h.apart,if_neg (by simp)]
end

instance :Inhabited ActP:=⟨⟨0,0,0,0,default⟩⟩
theorem ac_ln (a:ActP):(actD a).length=46:=actD_ln a
theorem ac_sz (a:ActP):(dV (actD a)).length=46:=by rw [dV_len,ac_ln]
theorem ac_take (a:ActP):(dV (actD a)).take 46=dV (actD a):=by rw [List.take_of_length_le];rw [ac_sz];exact Nat.le_refl _
theorem ac_takeD (a:ActP):(actD a).take 46=actD a:=by rw [List.take_of_length_le];rw [ac_ln];exact Nat.le_refl _
theorem ac_h0 (a:ActP):(dV (actD a)).head? =some (vI a.kind):=rfl
theorem ac_h1 (a:ActP):((dV (actD a)).drop 1).head? =some (vI a.peer):=rfl
theorem ac_h2 (a:ActP):((dV (actD a)).drop 2).head? =some (vI a.to_):=rfl
theorem ac_h3 (a:ActP):((dV (actD a)).drop 3).head? =some (vI a.at_):=rfl
theorem ac_d4 (a:ActP):(dV (actD a)).drop 4=dV (handD a.hand):=rfl
theorem ac_p0 (a:ActP):(dV ((actD a).drop 1)).head? =some (vI a.peer):=rfl
theorem ac_p2 (a:ActP):(dV ((actD a).drop 2)).head? =some (vI a.to_):=rfl
theorem ac_p3 (a:ActP):(dV ((actD a).drop 3)).head? =some (vI a.at_):=rfl
theorem ac_p4 (a:ActP):(actD a).drop 4=handD a.hand:=rfl
theorem ac_dr (a:ActP):(dV (actD a)).drop 46=[]:=List.drop_eq_nil_of_le (by rw [ac_sz];exact Nat.le_refl _)
theorem ac_s0 (a:ActP) (x:Int):splice (dV (actD a)) 0 [vI x]=dV (actD { a with kind:=x }):=rfl
theorem ac_s1 (a:ActP) (x:Int):splice (dV (actD a)) 1 [vI x]=dV (actD { a with peer:=x }):=rfl
theorem ac_s4 (a:ActP) (h:Hd):splice (dV (actD a)) 4 (dV (handD h))=dV (actD { a with hand:=h }):=by
 unfold splice
 rw [hd_sz,show (4:Nat)+42=46 from rfl,ac_dr,List.append_nil]
 rfl
def zActV:Value:= .agg ((List.replicate 11 (Value.int .i64 0)++List.replicate 32 (Value.int .u8 0)++List.replicate 3 (Value.int .i64 0)).toArray)
theorem ty_A:ty T 38=some ⟨.struct [(0,1),(1,1),(2,1),(3,1),(4,42)],46,zActV,144⟩:=by kernel_rfl
theorem zA_one:allOne zActV=true:=by kernel_rfl
theorem zA_cells:zcells zActV=dV (actD default):=by kernel_rfl
theorem zA_map:List.map (fun c=>V.d (D.c c)) zActV.cells.toList=dV (actD default):=by kernel_rfl
theorem zA_D:zD zActV=actD default:=by kernel_rfl
set_option linter.defProp false in
def actS:=And.intro @ac_ln (And.intro @ac_sz (And.intro @ac_take (And.intro @ac_takeD (And.intro @ac_h0 (And.intro @ac_h1 (And.intro @ac_h2 (And.intro @ac_h3 (And.intro @ac_d4 (And.intro @ac_p0 (And.intro @ac_p2 (And.intro @ac_p3 (And.intro @ac_p4 @ac_dr))))))))))))

open Go.ChangeShapes Go.WideShapes Go.ChangeAt Go.RowKit
theorem trodAll_below {H:Type} {enc:TypeId×Value→H} {P:Program} (hl:laidOutB P=true) {W W':World} (hb:Below W.heap.size W W') {sp:Nat→Bool}:
  ∀ {ts:List TypeId} {vs:List Value} {ds:List (DataW H)} {ps:List MemPlace},(∀ t∈ts,P.readableRec t=true∧t < P.types.size)→(∀ x∈ps,x.block < W.heap.size)→(∀ x∈ps,sp x.block=true)→
   DataW.TrodAll enc P W 0 (fun _=>true) true ts vs ds ps→DataW.TrodAll enc P W' 0 sp true ts vs ds ps
 |[],_,_,_,_,_,_,h=>by
   obtain ⟨rfl,rfl,rfl⟩:=trodAll_nil h
   exact rfl
 |t :: ts,_,_,_,hr,hlt,hsp,h=>by
   obtain ⟨v,vs1,d,ds1,a,b,rfl,rfl,rfl,h1,h2⟩:=trodAll_cons h
   refine ⟨a,b,?_,trodAll_below hl hb (fun u hu=>hr u (List.mem_cons_of_mem _ hu)) (fun x hx=>hlt x (by simp [hx])) (fun x hx=>hsp x (by simp [hx])) h2,rfl⟩
   exact WideElems.Trod_stays hl (hr t (by simp)).1 (hr t (by simp)).2 h1 (fun x hx=>hb.same (hlt x (by simp [hx]))) (fun x hx=>hsp x (by simp [hx]))
theorem post_read {H:Type} {enc:TypeId×Value→H} {P:Program} {f:Func} {s:ChangeSpec} {fresh handsOn again:Bool} {W W':World} {args:Array Value} {ds:List (DataW H)} {before:List MemPlace} {tb:TypeId}
  (hl:laidOutB P=true) (hs:s.vars=[]) (hr:f.resultTypes= #[tb]) (htb:P.underlying tb=some .bool)
  (hts:(f.params.toList.all fun t=>P.readableRec t&&decide (t < P.types.size))=true)
  (hfn:s.fn H (ds++[])={ results:=[.lit (.bool true)],args:=ds })
  (hW:DataW.Whole enc P f.params.toList s.vars false W args.toList ds [] before) (hb:Below W.heap.size W W'):
  s.post enc P f false fresh handsOn again W args (.bool true) W':=by
 have hW0:=hW
 have hlt:∀ p∈before,p.block < W.heap.size:=fun p hp=>hW.lt p hp
 have hold:∀ p∈before,(fun b=>decide (b < W.heap.size)) p.block=true:=fun p hp=>by simpa using hlt p hp
 rw [hs] at hW
 obtain ⟨p,q,hA,hV,rfl,hz,hn⟩:=hW
 obtain ⟨_,rfl⟩:=trodVars_none hV
 rw [List.append_nil] at hlt hold hz hn
 have hts':∀ t∈f.params.toList,P.readableRec t=true∧t < P.types.size:=fun t ht=>by
  have:=List.all_eq_true.1 hts t ht
  simpa using this
 have hargs:∀ sp:Nat→Bool,(∀ x∈p,sp x.block=true)→DataW.TrodAll enc P W' 0 sp true f.params.toList args.toList (s.fn H (ds++[])).args p:=fun sp hsp=>by
  rw [hfn]
  exact trodAll_below hl hb hts' hlt hsp hA
 have hres:∀ (b:Nat) (sp:Nat→Bool) (hd:Bool),DataW.TrodAll enc P W' b sp hd f.resultTypes.toList ((Value.bool true).resultList f.resultTypes.size) (s.fn H (ds++[])).results []:=fun b sp hd=>by
  rw [hfn,hr]
  exact trodAll_cons_mk (shut_bool htb _) trodAll_mk0
 have hvars:∀ sp:Nat→Bool,DataW.TrodVars enc P W' sp s.vars (s.fn H (ds++[])).vars []:=fun sp=>by
  rw [hfn,hs]
  exact rfl
 have hok:∀ (j:Nat) (t:TypeId) (r:Value),f.resultTypes[j]? =some t→((Value.bool true).resultList f.resultTypes.size)[j]? =some r→Value.okWide P W' .any 0 t r:=
  ok_one hr rfl (okWide_bool_mk htb _)
 refine ⟨ds,[],p++[],[],p,[],hW0,hres _ _ _,hargs _ hold,hvars _,World.keptBut_mono (fun x hx=>⟨hx,?_⟩) (hb.frame (· ∈p++[])),fun _=>?_⟩
 ·simpa using hx
 ·refine ⟨hok,_,_,([]++p)++[],⟨[]++p,[],trodAll_append (hargs _ (fun _ _=>rfl)) (hres _ _ _),hvars _,rfl,?_,?_⟩,?_⟩
  ·intro b off hp
   have hp':MemPlace.cell b off∈p:=by simpa using hp
   rw [hb.frozen (p:=⟨b,off,none⟩) (hlt _ hp')]
   exact hz b off hp'
  ·intro ha
   cases ha
  ·intro x hx _
   simpa using hx

def Opens {α:Type} (P:Program) (t:TypeId) (R:RepT α):Prop:=
 ∀ {H:Type} {enc:TypeId×Value→H} {W:World} {n:Nat} {cs:List Value} {x:DataW H×List MemPlace},DataW.trod enc P W 0 (fun _=>true) true n t cs=some x→(∀ k∈x.1.weights P t,k≤reachBytes)→∃ y:α,R (Now W) W y cs
section
variable {α β:Type} {P:Program} {t e:TypeId} {sz:Nat} {R:RepT α}
theorem opens_int {k:IntKind} (hu:P.underlying t=some (.int k)):Opens P t (RI k):=fun h _=>by
 obtain ⟨n,e,_,hw⟩:=DataW.trod_int hu h
 exact ⟨n,e,hw⟩
theorem mapM_get {f:Nat→Option Value}:∀ {l:List Nat} {cs:List Value},l.mapM f=some cs→cs.length=l.length∧∀ (j:Nat) (u:Value),cs[j]? =some u→∃ i:Nat,l[j]? =some i∧f i=some u
 |[],cs,h=>by
   simp at h
   subst h
   exact ⟨rfl,fun j u h=>by simp at h⟩
 |i :: l,cs,h=>by
   rw [List.mapM_cons] at h
   cases h1:f i with
   |none=>simp [h1] at h
   |some u=>
     cases h2:l.mapM f with
     |none=>simp [h1,h2] at h
     |some us=>
       simp [h1,h2] at h
       subst h
       obtain ⟨hl,hg⟩:=mapM_get h2
       refine ⟨by simp [hl],fun j v hv=>?_⟩
       cases j with
       |zero=>simp at hv;subst hv;exact ⟨i,rfl,h1⟩
       |succ j=>simpa using hg j v (by simpa using hv)
theorem cells_get {w:World} {a:Addr} {n:Nat} {cs:List Value} (h:w.cells? 0 a n=some cs):cs.length=n∧∀ (j:Nat) (u:Value),cs[j]? =some u→w.cell? (a.add j)=some u:=by
 unfold World.cells? at h
 rw [if_pos (Nat.zero_le _)] at h
 obtain ⟨hl,hg⟩:=mapM_get h
 refine ⟨by simpa using hl,fun j u hu=>?_⟩
 obtain ⟨i,hi,hf⟩:=hg j u hu
 have:i=j:=by
  have hj:j < n:=by have:=(List.getElem?_eq_some_iff.1 hu).1;rw [hl] at this;simpa using this
  rw [List.getElem?_range hj] at hi
  exact (Option.some.inj hi).symm
 rw [this] at hf
 exact hf
theorem weights_all {H:Type} {d:DataW H} {k:Nat}:∀ {l:List (DataW H)},d∈l→k∈d.weights P e→k∈DataW.weightsAll P e l
 |[],h,_=>by cases h
 |x :: l,h,hk=>by
   simp only [DataW.weightsAll,List.mem_append]
   rcases List.mem_cons.1 h with rfl|h
   ·exact .inl hk
   ·exact .inr (weights_all h hk)
theorem pick_list {Q:Nat→α→Prop}:∀ n,(∀ i,i < n→∃ y,Q i y)→∃ l:List α,l.length=n∧∀ i (h:i < l.length),Q i l[i]
 |0,_=>⟨[],rfl,fun i h=>by cases h⟩
 |n+1,h=>by
   obtain ⟨l,hl,hq⟩:=pick_list n (fun i hi=>h i (by omega))
   obtain ⟨y,hy⟩:=h n (by omega)
   refine ⟨l++[y],by simp [hl],fun i hi=>?_⟩
   by_cases hi':i < l.length
   ·rw [List.getElem_append_left hi'];exact hq i hi'
   ·have:i=l.length:=by simp at hi;omega
    subst this
    simp [hl,hy]
theorem opens_slice (g:Good sz R) (ho:Opens P e R) (hu:P.underlying t=some (.slice e)) (hc:P.cellsOf e=sz) (hpos:0 < sz) (hb:1≤P.bytesOf e):Opens P t (RS sz R):=by
 intro H enc W n cs x h hw
 rcases DataW.trod_slice hu h with ⟨rfl,_⟩|⟨a,len,cap,elems,rest,m,rfl,rfl,rfl,_,hl,_,hlen,hel,_,_⟩
 ·exact ⟨[],none,0,rfl,Nat.le_refl _,by simp,RRow.nil _⟩
 ·simp only [DataW.weights,hu] at hw
  have hsz:=hw _ (List.mem_cons_self ..)
  rw [List.length_map,List.length_map] at hsz
  have hbig:elems.length≤140737488351232:=by
   unfold reachBytes at hsz
   have:=Nat.mul_le_mul_left (elems.length+rest.length) hb
   omega
  rw [hc] at hel
  by_cases hl0:len=0
  ·subst hl0
   exact ⟨[],some a,cap,rfl,by simp,by simp,RRow.nil _⟩
  have hs:a.spot=none:=by
   have h0:=hel 0 (by omega)
   rw [List.getElem?_eq_getElem (by omega)] at h0
   cases hcs:W.cells? 0 (a.add (0 * sz)) sz with
   |none=>rw [hcs] at h0;cases h0
   |some cs=>
     obtain ⟨hl2,hg⟩:=cells_get hcs
     have h9:=World.cell?_spot (hg 0 cs[0] (by simp))
     simpa [Addr.add] using h9
  obtain ⟨b,off,spot⟩:=a
  subst hs
  have key:∀ i,i < len→∃ y:α,∃ cs,Now W b∧R (Now W) W y cs∧∀ j u,cs[j]? =some u→W.cell? ⟨b,off+i * sz+j,none⟩=some u:=by
   intro i hi
   have h0:=hel i hi
   have he:elems[i]? =some (getElem elems i (by omega)):=List.getElem?_eq_getElem (by omega)
   rw [he] at h0
   cases hcs:W.cells? 0 (Addr.add ⟨b,off,none⟩ (i * sz)) sz with
   |none=>rw [hcs] at h0;cases h0
   |some cs=>
     rw [hcs,Option.bind_some] at h0
     obtain ⟨y,hy⟩:=ho h0 (fun k hk=>hw k (by
      refine List.mem_cons_of_mem _ (List.mem_append.2 (.inl ?_))
      exact weights_all (List.mem_map.2 ⟨_,List.getElem_mem (by omega),rfl⟩) hk))
     obtain ⟨hl2,hg⟩:=cells_get hcs
     have hc0:=hg 0 cs[0] (by simp)
     refine ⟨y,cs,?_,hy,fun j u hu=>?_⟩
     ·have:=World.block_lt_of_cell? _ _ hc0
      rw [add_plain,add_plain] at this
      exact this
     ·have:=hg j u hu
      rw [add_plain,add_plain] at this
      exact this
  obtain ⟨l,hll,hq⟩:=pick_list len key
  refine ⟨l,some ⟨b,off,none⟩,cap,by rw [hll],by rw [hll];exact hl,by rw [hll,← hlen];exact hbig,fun i hi=>?_⟩
  obtain ⟨cs,h1,h2,h3⟩:=hq i hi
  exact ⟨b,off,cs,rfl,h1,h2,h3⟩
def OpensL {γ:Type} (P:Program) (l:List Field) (o:Nat) (T:RepT γ):Prop:=
 ∀ {H:Type} {enc:TypeId×Value→H} {W:World} {n:Nat} {cs:List Value} {xs:List (DataW H×List MemPlace)},xs.length=l.length→(cs.length+o=(l.map fun f=>P.cellsOf f.type).foldl (· + ·) o)→
  (∀ (i:Nat) (f:Field),l[i]? =some f→o≤f.offset∧DataW.trod enc P W 0 (fun _=>true) true n f.type ((cs.drop (f.offset - o)).take (P.cellsOf f.type))=xs[i]?)→
  (∀ (i:Nat) (f:Field) (x:DataW H×List MemPlace),l[i]? =some f→xs[i]? =some x→∀ k∈x.1.weights P f.type,k≤reachBytes)→∃ y:γ,T (Now W) W y cs
def RNil:RepT Unit:=fun _ _ _ cs=>cs=[]
theorem opensL_nil {o:Nat}:OpensL P [] o RNil:=fun hx hl _ _=>by
 simp at hl
 exact ⟨(),hl⟩
theorem foldl_add (l:List Nat) (o:Nat):l.foldl (· + ·) o=o+l.foldl (· + ·) 0:=by
 induction l generalizing o with
 |nil=>simp
 |cons x l ih=>rw [List.foldl_cons,List.foldl_cons,ih (o+x),ih (0+x)];omega
theorem opensL_cons {f:Field} {l:List Field} {o s1:Nat} {S:RepT β} (g:Good s1 R) (ho:Opens P f.type R) (hs:P.cellsOf f.type=s1) (hof:f.offset=o) (hall:∀ f'∈l,o+s1≤f'.offset) (hl:OpensL P l (o+s1) S):OpensL P (f :: l) o (RP R S):=by
 intro H enc W n cs xs hx hlen hel hw
 rw [List.map_cons,List.foldl_cons,foldl_add,hs] at hlen
 match xs,hx with
 |x :: xs,hx=>
   have h0:=(hel 0 f rfl).2
   rw [hof,Nat.sub_self,List.drop_zero,hs] at h0
   obtain ⟨y,hy⟩:=ho h0 (hw 0 f x rfl rfl)
   obtain ⟨z,hz⟩:=hl (cs:=cs.drop s1) (xs:=xs) (n:=n) (enc:=enc) (by simpa using hx) (by rw [List.length_drop,foldl_add];omega) (fun i f' hf=>by
    have h1:=hel (i+1) f' (by simpa using hf)
    have h2:=hall f' (List.mem_of_getElem? hf)
    refine ⟨h2,?_⟩
    have h3:=h1.2
    rw [List.drop_drop,show s1+(f'.offset - (o+s1))=f'.offset - o by omega]
    simpa using h3) (fun i f' x' hf hx'=>hw (i+1) f' x' (by simpa using hf) (by simpa using hx'))
   exact ⟨(y,z),cs.take s1,cs.drop s1,(List.take_append_drop ..).symm,hy,hz⟩
theorem opens_struct {fs:Array Field} {γ:Type} {T:RepT γ} (hu:P.underlying t=some (.struct fs)) (hc:P.cellsOf t=(fs.toList.map fun f=>P.cellsOf f.type).foldl (· + ·) 0) (hT:OpensL P fs.toList 0 T):Opens P t T:=by
 intro H enc W n cs x h hw
 obtain ⟨xs,m,rfl,rfl,hl,hlen,hf⟩:=DataW.trod_struct hu h
 refine hT (xs:=xs) (n:=m) (enc:=enc) (by simpa using hlen) (by rw [hl,hc];rfl) (fun i f hi=>⟨Nat.zero_le _,by simpa using hf i f (by simpa using hi)⟩) (fun i f x hi hx k hk=>hw k ?_)
 simp only [DataW.weights,hu]
 exact DataW.weights_mem_each (by rw [List.getElem?_map,hi];rfl) (by rw [List.getElem?_map,hx];rfl) k hk
theorem opens_map {γ:Type} {T:RepT γ} {f:α→γ} (h:Opens P t R) (hm:∀ {F w x cs},R F w x cs→T F w (f x) cs):Opens P t T:=fun h1 h2=>by
 obtain ⟨y,hy⟩:=h h1 h2
 exact ⟨f y,hm hy⟩
def RArr (n:Nat) (R:RepT α):RepT (List α):=fun F w l cs=>l.length=n∧CellsL R F w l cs
theorem cellsL_of {F:Nat→Prop} {w:World} (hsz:0 < sz):∀ {l:List α} {cs:List Value},cs.length=l.length * sz→(∀ i (h:i < l.length),R F w l[i] ((cs.drop (i * sz)).take sz))→CellsL R F w l cs
 |[],cs,h,_=>by simp at h;exact h
 |x :: l,cs,h,hi=>by
   refine ⟨cs.take sz,cs.drop sz,(List.take_append_drop ..).symm,(by have:=hi 0 (by simp);rw [Nat.zero_mul,List.drop_zero] at this;exact this),cellsL_of hsz (by rw [List.length_drop,h,List.length_cons,Nat.add_mul];omega) (fun i hi'=>?_)⟩
   have:=hi (i+1) (by simpa using hi')
   rw [List.drop_drop,show sz+i * sz=(i+1) * sz by rw [Nat.add_mul];omega]
   simpa using this
theorem opens_array {n:Nat} (ho:Opens P e R) (hu:P.underlying t=some (.array n e)) (hc:P.cellsOf e=sz) (hpos:0 < sz) (ht:P.cellsOf t=n * sz):Opens P t (RArr n R):=by
 intro H enc W fuel cs x h hw
 obtain ⟨xs,m,rfl,rfl,hl,hlen,hf⟩:=DataW.trod_array hu h
 rw [hc] at hf
 have key:∀ i,i < n→∃ y:α,R (Now W) W y ((cs.drop (i * sz)).take sz):=fun i hi=>by
  have h0:=hf i hi
  rw [List.getElem?_eq_getElem (by omega)] at h0
  refine ho h0 (fun k hk=>hw k ?_)
  simp only [DataW.weights,hu]
  exact weights_all (List.mem_map.2 ⟨_,List.getElem_mem (by omega),rfl⟩) hk
 obtain ⟨l,hll,hq⟩:=pick_list n key
 exact ⟨l,hll,cellsL_of hpos (by rw [hl,ht,hll]) (fun i hi=>hq i hi)⟩
theorem sized {H:Type} {ts:List TypeId} {ds:List (DataW H)} (h:(DataW.weightsEach P ts ds).all (· ≤reachBytes)=true) {j:Nat} {t:TypeId} {d:DataW H} (ht:ts[j]? =some t) (hd:ds[j]? =some d):∀ k∈d.weights P t,k≤reachBytes:=fun k hk=>by
 have:=List.all_eq_true.1 h _ (DataW.weights_mem_each ht hd k hk)
 simpa using this
section
variable {H:Type} {enc:TypeId×Value→H} {W:World} {base:Nat} {v:Value} {d:DataW H} {ps:List MemPlace}
theorem open_struct {fs:Array Field} (ho:Opens P t R) (hu:P.underlying t=some (.struct fs)) (hok:Value.okWide P W .any base t v) (h:DataW.Trod enc P W 0 (fun _=>true) true t v d ps) (hw:∀ k∈d.weights P t,k≤reachBytes):
  ∃ x cs,v= .agg cs∧R (Now W) W x cs.toList:=by
 simp only [Value.okWide,hu] at hok
 obtain ⟨cs,rfl,_⟩:=hok
 obtain ⟨fuel,hf⟩:=h
 obtain ⟨x,hx⟩:=ho hf hw
 exact ⟨x,cs,rfl,hx⟩
end
end

abbrev ftB (F:Nat→Prop):Ft:=⟨fun b _=>F b,F⟩
def RE {α:Type} (enc:α→List D) (ok:α→Prop):RepT α:=fun F w x cs=>ok x∧RDL (ftB F) w (enc x) cs∧∀ u∈cs,u.oneCell'=true
section
variable {α β:Type} {P:Program} {t e:TypeId} {sz:Nat} {enc:α→List D} {ok:α→Prop} {enc2:β→List D} {ok2:β→Prop} {F:Nat→Prop} {w:World}
theorem good_re (hl:∀ x,(enc x).length=sz):Good sz (RE enc ok):=
 ⟨fun {F F' w w'} hF hk {x cs} h=>⟨h.1,RDL.mono (F:=ftB F) (G:=ftB F') ⟨fun b o hb=>hF b hb,fun b hb=>hF b hb⟩ (Kp.of_blocks (F:=ftB F) (fun x o hx=>hk x hx) (fun x hx=>hk x hx)) _ _ h.2.1,h.2.2⟩,
  fun {F w x cs} h=>by rw [RDL.len h.2.1,hl],fun {F w x cs} h=>h.2.2⟩
theorem ore_int {k:IntKind} (hu:P.underlying t=some (.int k)):Opens P t (RE (fun n:Int=>[.c (.int k n)]) (fun n=>(Lit.int k n).wf=true)):=
 opens_map (f:=fun n:Int=>n) (opens_int hu) fun {F w x cs} h=>⟨h.2,by rw [h.1];exact ⟨_,_,rfl,rfl,rfl⟩,by rw [h.1];simp [Value.oneCell']⟩
theorem rep_re {p:α×β} {cs:List Value} (h:RP (RE enc ok) (RE enc2 ok2) F w p cs):RE (fun p:α×β=>enc p.1++enc2 p.2) (fun p=>ok p.1∧ok2 p.2) F w p cs:=by
 obtain ⟨c1,c2,rfl,h1,h2⟩:=h
 refine ⟨⟨h1.1,h2.1⟩,RDL.append h1.2.1 h2.2.1,fun u hu=>?_⟩
 rcases List.mem_append.1 hu with hu|hu
 ·exact h1.2.2 u hu
 ·exact h2.2.2 u hu
theorem opensL_map {γ δ:Type} {l:List Field} {o:Nat} {T:RepT γ} {U:RepT δ} {f:γ→δ} (h:OpensL P l o T) (hm:∀ {F w x cs},T F w x cs→U F w (f x) cs):OpensL P l o U:=fun h1 h2 h3 h4=>by
 obtain ⟨y,hy⟩:=h h1 h2 h3 h4
 exact ⟨f y,hm hy⟩
theorem oreL_nil {o:Nat}:OpensL P [] o (RE (fun _:Unit=>[]) (fun _=>True)):=
 opensL_map (f:=fun u:Unit=>u) opensL_nil fun {F w x cs} h=>⟨trivial,h,by rw [h];simp⟩
theorem oreL_cons {f:Field} {l:List Field} {o s1:Nat} (hl1:∀ x,(enc x).length=s1) (ho:Opens P f.type (RE enc ok)) (hs:P.cellsOf f.type=s1) (hof:f.offset=o) (hall:∀ f'∈l,o+s1≤f'.offset) (hl:OpensL P l (o+s1) (RE enc2 ok2)):
  OpensL P (f :: l) o (RE (fun p:α×β=>enc p.1++enc2 p.2) (fun p=>ok p.1∧ok2 p.2)):=
 opensL_map (f:=fun p:α×β=>p) (opensL_cons (good_re hl1) ho hs hof hall hl) fun {F w x cs} h=>rep_re h
theorem oreL_1 {f:Field} {l:List Field} {o:Nat} (ho:Opens P f.type (RE enc ok)) (hl1:∀ x,(enc x).length=1) (hs:P.cellsOf f.type=1) (hof:f.offset=o) (hall:∀ f'∈l,o+1≤f'.offset) (hl:OpensL P l (o+1) (RE enc2 ok2)):
  OpensL P (f :: l) o (RE (fun p:α×β=>enc p.1++enc2 p.2) (fun p=>ok p.1∧ok2 p.2)):=oreL_cons hl1 ho hs hof hall hl
theorem ore_map {f:α→β} (h:Opens P t (RE enc ok)) (he:∀ x,enc2 (f x)=enc x) (hok:∀ x,ok x→ok2 (f x)):Opens P t (RE enc2 ok2):=
 opens_map (f:=f) h fun {F w x cs} h=>⟨hok _ h.1,by rw [he];exact h.2.1,h.2.2⟩
theorem rr_of {l:List α} {a:Option Addr} (hl:∀ x,(enc x).length=sz) (h:RRow sz (RE enc ok) F w l a):RR (ftB F) w sz a (l.map enc) 0∧∀ x∈l,ok x:=by
 have key:∀ (m:List α) (n:Nat),(∀ i (hi:i < m.length),∃ b off cs,a=some ⟨b,off,none⟩∧F b∧RE enc ok F w m[i] cs∧∀ j u,cs[j]? =some u→w.cell? ⟨b,off+(n+i) * sz+j,none⟩=some u)→RR (ftB F) w sz a (m.map enc) (n * sz)∧∀ x∈m,ok x:=by
  intro m
  induction m with
  |nil=>intro n _;exact ⟨trivial,by simp⟩
  |cons x m ih=>
    intro n h
    obtain ⟨b,off,cs,h1,h2,h3,h4⟩:=h 0 (by simp)
    have h3':RE enc ok F w x cs:=h3
    obtain ⟨k1,k2⟩:=ih (n+1) (fun i hi=>by
     obtain ⟨b',off',cs',g1,g2,g3,g4⟩:=h (i+1) (by simpa using hi)
     exact ⟨b',off',cs',g1,g2,g3,fun j u hj=>by have:=g4 j u hj;rw [show n+1+i=n+(i+1) by omega];exact this⟩)
    refine ⟨⟨⟨b,off,cs,h1,h3'.2.1,by rw [RDL.len h3'.2.1,hl],h3'.2.2,fun j u hj=>⟨h2,?_⟩⟩,?_⟩,?_⟩
    ·have:=h4 j u hj
     simpa using this
    ·rw [Nat.add_mul,Nat.one_mul] at k1
     exact k1
    ·intro y hy
     rcases List.mem_cons.1 hy with rfl|hy
     ·exact h3'.1
     ·exact k2 y hy
 have:=key l 0 (fun i hi=>by
  obtain ⟨b,off,cs,h1,h2,h3,h4⟩:=h i hi
  exact ⟨b,off,cs,h1,h2,h3,fun j u hj=>by rw [Nat.zero_add];exact h4 j u hj⟩)
 simpa using this
theorem ore_slice (d0:List D) (hl:∀ x,(enc x).length=sz) (ho:Opens P e (RE enc ok)) (hu:P.underlying t=some (.slice e)) (hc:P.cellsOf e=sz) (hpos:0 < sz) (hb:1≤P.bytesOf e):
  Opens P t (RE (fun l:List α=>[.sl sz d0 (l.map enc)]) (fun l=>l.length≤140737488351232∧∀ x∈l,ok x)):=
 opens_map (f:=fun l:List α=>l) (opens_slice (good_re hl) ho hu hc hpos hb) fun {F w x cs} h=>by
  obtain ⟨a,cap,rfl,h1,h2,h3⟩:=h
  obtain ⟨k1,k2⟩:=rr_of hl h3
  refine ⟨⟨h2,k2⟩,⟨_,_,rfl,⟨a,cap,by rw [List.length_map],by simpa using h1,by simpa using h2,k1⟩,rfl⟩,by simp [Value.oneCell']⟩
theorem rdl_cells {n:Nat}:∀ {l:List α} {cs:List Value},CellsL (RE enc ok) F w l cs→RE (fun l:List α=>(l.map enc).flatten) (fun l=>∀ x∈l,ok x) F w l cs
 |[],cs,h=>by cases h;exact ⟨by simp,rfl,by simp⟩
 |x :: l,cs,h=>by
   obtain ⟨c,ys,rfl,h1,h2⟩:=h
   obtain ⟨k1,k2,k3⟩:=rdl_cells (n:=n) h2
   refine ⟨fun y hy=>?_,?_,fun u hu=>?_⟩
   ·rcases List.mem_cons.1 hy with rfl|hy
    ·exact h1.1
    ·exact k1 y hy
   ·show RDL _ _ (enc x++(l.map enc).flatten) _
    exact RDL.append h1.2.1 k2
   ·rcases List.mem_append.1 hu with hu|hu
    ·exact h1.2.2 u hu
    ·exact k3 u hu
theorem ore_array {n:Nat} (ho:Opens P e (RE enc ok)) (hu:P.underlying t=some (.array n e)) (hc:P.cellsOf e=sz) (hpos:0 < sz) (ht:P.cellsOf t=n * sz):
  Opens P t (RE (fun l:List α=>(l.map enc).flatten) (fun l=>l.length=n∧∀ x∈l,ok x)):=
 opens_map (f:=fun l:List α=>l) (opens_array ho hu hc hpos ht) fun {F w x cs} h=>by
  obtain ⟨k1,k2,k3⟩:=rdl_cells (n:=n) h.2
  exact ⟨⟨h.1,k1⟩,k2,k3⟩
abbrev ftN (w:World):Ft:=ftB (Now w)
theorem ftN_lt (w:World):(ftN w).lt w:=⟨fun _ _ h=>h,fun _ h=>h⟩
variable {H:Type} {en:TypeId×Value→H} {W:World} {base:Nat} {v:Value} {d:DataW H} {ps:List MemPlace}
theorem arg_int {k:IntKind} (hu:P.underlying t=some (.int k)) (hok:Value.okWide P W .any base t v) (h:DataW.Trod en P W 0 (fun _=>true) true t v d ps):∃ n:Int,(Lit.int k n).wf=true∧RA (ftN W) W (.one (.c (.int k n))) v:=by
 obtain ⟨z,rfl,rfl,rfl,wz⟩:=open_int hu hok h
 exact ⟨z,wz,rfl⟩
theorem arg_struct {fs:Array Field} (ho:Opens P t (RE enc ok)) (hu:P.underlying t=some (.struct fs)) (hok:Value.okWide P W .any base t v) (h:DataW.Trod en P W 0 (fun _=>true) true t v d ps) (hw:∀ k∈d.weights P t,k≤reachBytes):
  ∃ x,ok x∧RA (ftN W) W (.agg (enc x)) v:=by
 obtain ⟨x,cs,rfl,h1,h2,h3⟩:=open_struct ho hu hok h hw
 exact ⟨x,h1,cs.toList,by simp,h2,h3⟩
end

theorem wf_u8h {n:Int} (h:(Lit.int .u8 n).wf=true):0≤n∧n≤255:=by simpa [Lit.wf,IntKind.min,IntKind.max,IntKind.signed,IntKind.bits] using h
theorem opens_byte:Opens Tryz.prog 5 (RE byD (fun _=>True)):=
 opens_map (f:=fun n:Int=>UInt8.ofNat n.toNat) (ore_int Tryz.underlying5) fun {F w x cs} h=>by
  have hw:=wf_u8h h.1
  refine ⟨trivial,?_,h.2.2⟩
  have e:byD (UInt8.ofNat x.toNat)=[.c (.int .u8 x)]:=by
   unfold byD
   rw [UInt8.toNat_ofNat']
   congr 3
   omega
  rw [e]
  exact h.2.1
theorem opens_bytes:Opens Tryz.prog 50 (RE (fun l:List UInt8=>[bsD l]) (fun l=>l.length≤140737488351232∧∀ x∈l,True)):=
 ore_slice (sz:=1) (byD 0) (by intro x;rfl) opens_byte Tryz.underlying50 (by kernel_rfl) (by decide) (Nat.le_of_ble_eq_true (by kernel_rfl))
theorem rootD_flat (l:List UInt8):(l.map byD).flatten=rootD l:=by
 induction l with
 |nil=>rfl
 |cons b l ih=>rw [List.map_cons,List.flatten_cons,ih];rfl
theorem opens_digest:Opens Tryz.prog 32 (RE (fun r:Vector UInt8 32=>rootD r.toList) (fun _=>True)):=
 opens_map (f:=rootOf) (ore_array (n:=32) (sz:=1) opens_byte Tryz.underlying32 (by kernel_rfl) (by decide) (by kernel_rfl)) fun {F w x cs} h=>by
  refine ⟨trivial,?_,h.2.2⟩
  have e:(rootOf x).toList=x:=by
   unfold rootOf
   rw [dif_pos (by simpa using h.1.1)]
   rfl
  show RDL (ftB F) w (rootD (rootOf x).toList) cs
  rw [e,← rootD_flat]
  exact h.2.1
theorem opens_i:Opens Tryz.prog 3 (RE (fun n:Int=>[cI n]) Cd.i64R):=
 ore_map (f:=fun n:Int=>n) (ore_int Tryz.underlying3) (by intro x;rfl) (fun x h=>wf_i64 h)
structure RunP where
 a:Int
 b:Int
 c:Int
def runD (x:RunP):List D:=[cI x.a,cI x.b,cI x.c]
theorem opens_run:Opens Tryz.prog 30 (RE runD (fun x=>Cd.i64R x.a∧Cd.i64R x.b∧Cd.i64R x.c)):=
 ore_map (f:=fun x:Int×Int×Int×Unit=>(⟨x.1,x.2.1,x.2.2.1⟩:RunP))
  (opens_struct Tryz.underlying30 (by kernel_rfl)
   (oreL_1 opens_i (by intro x;rfl) (by kernel_rfl) rfl (by simp) (oreL_1 opens_i (by intro x;rfl) (by kernel_rfl) rfl (by simp) (oreL_1 opens_i (by intro x;rfl) (by kernel_rfl) rfl (by simp) oreL_nil))))
  (by intro x;rfl) (by rintro x ⟨h1,h2,h3,_⟩;exact ⟨h1,h2,h3⟩)
def sigD (x:Int×Int):List D:=[cI x.1,cI x.2]
theorem opens_sig:Opens Tryz.prog 34 (RE sigD (fun x=>Cd.i64R x.1∧Cd.i64R x.2)):=
 ore_map (f:=fun x:Int×Int×Unit=>(x.1,x.2.1))
  (opens_struct Tryz.underlying34 (by kernel_rfl)
   (oreL_1 opens_i (by intro x;rfl) (by kernel_rfl) rfl (by simp) (oreL_1 opens_i (by intro x;rfl) (by kernel_rfl) rfl (by simp) oreL_nil)))
  (by intro x;rfl) (by rintro x ⟨h1,h2,_⟩;exact ⟨h1,h2⟩)
theorem opens_hand:Opens Tryz.prog 36 (RE handD hOk):=
 ore_map (f:=fun x:RunP×Int×Int×Int×Int×Vector UInt8 32×Int×(Int×Int)×Unit=>(⟨x.1.a,x.1.b,x.1.c,x.2.1,x.2.2.1,x.2.2.2.1,x.2.2.2.2.1,x.2.2.2.2.2.1,x.2.2.2.2.2.2.1,x.2.2.2.2.2.2.2.1.1,x.2.2.2.2.2.2.2.1.2⟩:Hd))
  (opens_struct Tryz.underlying36 (by kernel_rfl)
   (oreL_cons (s1:=3) (by intro x;rfl) opens_run (by kernel_rfl) rfl (by simp) (oreL_1 opens_i (by intro x;rfl) (by kernel_rfl) rfl (by simp) (oreL_1 opens_i (by intro x;rfl) (by kernel_rfl) rfl (by simp) (oreL_1 opens_i (by intro x;rfl) (by kernel_rfl) rfl (by simp) (oreL_1 opens_i (by intro x;rfl) (by kernel_rfl) rfl (by simp)
   (oreL_cons (s1:=32) (by intro x;simp [rootD_ln]) opens_digest (by kernel_rfl) rfl (by simp) (oreL_1 opens_i (by intro x;rfl) (by kernel_rfl) rfl (by simp) (oreL_cons (s1:=2) (by intro x;rfl) opens_sig (by kernel_rfl) rfl (by simp) oreL_nil)))))))))
  (by intro x;simp [handD,tailD,runD,sigD]) (by rintro x ⟨⟨h1,h2,h3⟩,h4,h5,h6,h7,_,h8,⟨h9,h10⟩,_⟩;exact ⟨h1,h2,h3,h4,h5,h6,h7,h8,h9,h10⟩)
theorem opens_act:Opens Tryz.prog 38 (RE actD (fun a=>hOk a.hand∧Cd.i64R a.kind)):=
 ore_map (f:=fun x:Int×Int×Int×Int×Hd×Unit=>(⟨x.1,x.2.1,x.2.2.1,x.2.2.2.1,x.2.2.2.2.1⟩:ActP))
  (opens_struct Tryz.underlying38 (by kernel_rfl)
   (oreL_1 opens_i (by intro x;rfl) (by kernel_rfl) rfl (by simp) (oreL_1 opens_i (by intro x;rfl) (by kernel_rfl) rfl (by simp) (oreL_1 opens_i (by intro x;rfl) (by kernel_rfl) rfl (by simp) (oreL_1 opens_i (by intro x;rfl) (by kernel_rfl) rfl (by simp)
   (oreL_cons (s1:=42) hd_ln opens_hand (by kernel_rfl) rfl (by simp) oreL_nil))))))
  (by intro x;simp [actD]) (by rintro x ⟨h1,_,_,_,h5,_⟩;exact ⟨h5,h1⟩)

theorem opens_packet:Opens Tryz.prog 52 (RE pkD (fun p=>p.data.length≤140737488351232)):=
 ore_map (f:=fun x:Int×Int×List UInt8×Unit=>(⟨x.1,x.2.1,x.2.2.1⟩:Pk))
  (opens_struct Tryz.underlying52 (by kernel_rfl)
   (oreL_1 opens_i (by intro x;rfl) (by kernel_rfl) rfl (by simp) (oreL_1 opens_i (by intro x;rfl) (by kernel_rfl) rfl (by simp) (oreL_1 opens_bytes (by intro x;rfl) (by kernel_rfl) rfl (by simp) oreL_nil))))
  (by intro x;rfl) (by rintro x ⟨_,_,h,_⟩;exact h.1)
theorem opens_packets:Opens Tryz.prog 23 (RE (fun l:List Pk=>[.sl 3 (pkD default) (l.map pkD)]) (fun l=>l.length≤140737488351232∧∀ x∈l,x.data.length≤140737488351232)):=
 ore_slice (sz:=3) (pkD default) (by intro x;rfl) opens_packet Tryz.underlying23 (by kernel_rfl) (by decide) (Nat.le_of_ble_eq_true (by kernel_rfl))
theorem opens_pair:Opens Tryz.prog 101 (RE prD (fun _=>True)):=
 opens_map (f:=fun l:List Int=>(l.getD 0 0,l.getD 1 0)) (ore_array (n:=2) (sz:=1) opens_i Tryz.underlying101 (by kernel_rfl) (by decide) (by kernel_rfl)) fun {F w x cs} h=>by
  obtain ⟨⟨h1,_⟩,h2,h3⟩:=h
  match x,h1 with
  |[a,b],_=>exact ⟨trivial,h2,h3⟩
theorem opens_pairs:Opens Tryz.prog 24 (RE (fun l:List Pr=>[.sl 2 (prD default) (l.map prD)]) (fun l=>l.length≤140737488351232∧∀ x∈l,True)):=
 ore_slice (sz:=2) (prD default) (by intro x;rfl) opens_pair Tryz.underlying24 (by kernel_rfl) (by decide) (Nat.le_of_ble_eq_true (by kernel_rfl))
theorem opens_net:Opens Tryz.prog 26 (RE netD (fun n=>(n.queue.length≤140737488351232∧∀ x∈n.queue,x.data.length≤140737488351232)∧n.apart.length≤140737488351232)):=
 ore_map (f:=fun x:List Pk×List Pr×Unit=>(⟨x.1,x.2.1⟩:NetP))
  (opens_struct Tryz.underlying26 (by kernel_rfl)
   (oreL_1 opens_packets (by intro x;rfl) (by kernel_rfl) rfl (by simp) (oreL_1 opens_pairs (by intro x;rfl) (by kernel_rfl) rfl (by simp) oreL_nil)))
  (by intro x;rfl) (by rintro x ⟨h1,h2,_⟩;exact ⟨h1,h2.1⟩)
theorem opens_hands:Opens Tryz.prog 49 (RE (fun l:List Hd=>[.sl 42 (handD default) (l.map handD)]) (fun l=>l.length≤140737488351232∧∀ x∈l,hOk x)):=
 ore_slice (sz:=42) (handD default) hd_ln opens_hand Tryz.underlying49 (by kernel_rfl) (by decide) (Nat.le_of_ble_eq_true (by kernel_rfl))
theorem opens_peer:Opens Tryz.prog 56 (RE peerD (fun l=>l.length≤140737488351232∧∀ x∈l,hOk x)):=
 ore_map (f:=fun x:List Hd×Unit=>x.1)
  (opens_struct Tryz.underlying56 (by kernel_rfl)
   (oreL_1 opens_hands (by intro x;rfl) (by kernel_rfl) rfl (by simp) oreL_nil))
  (by intro x;rfl) (by rintro x ⟨h1,_⟩;exact h1)
theorem opens_peers:Opens Tryz.prog 22 (RE (fun l:List (List Hd)=>[.sl 1 peer0 (l.map peerD)]) (fun l=>l.length≤140737488351232∧∀ x∈l,x.length≤140737488351232∧∀ h∈x,hOk h)):=
 ore_slice (sz:=1) peer0 (by intro x;rfl) opens_peer Tryz.underlying22 (by kernel_rfl) (by decide) (Nat.le_of_ble_eq_true (by kernel_rfl))
def okArg (r:RoomP):Prop:=(r.peers.length≤140737488351232∧∀ x∈r.peers,x.length≤140737488351232∧∀ h∈x,hOk h)∧(r.net.queue.length≤140737488351232∧∀ x∈r.net.queue,x.data.length≤140737488351232)∧r.net.apart.length≤140737488351232
theorem opens_room:Opens Tryz.prog 28 (RE roomD okArg):=
 ore_map (f:=fun x:List (List Hd)×NetP×Unit=>(⟨x.1,x.2.1⟩:RoomP))
  (opens_struct Tryz.underlying28 (by kernel_rfl)
   (oreL_1 opens_peers (by intro x;rfl) (by kernel_rfl) rfl (by simp) (oreL_cons (s1:=2) (by intro x;rfl) opens_net (by kernel_rfl) rfl (by simp) oreL_nil)))
  (by intro x;rfl) (by rintro x ⟨h1,h2,_⟩;exact ⟨h1,h2⟩)

theorem getD_out {α:Type} {l:List α} {d:α} {i:Nat} (h:l.length≤i):l.getD i d=d:=by
 rw [List.getD_eq_getElem?_getD,List.getElem?_eq_none h]
 rfl
theorem mem_learnL {l:List Hd} {h x:Hd} (hx:x∈learnL l h):x∈l∨x=h:=by
 unfold learnL at hx
 split at hx
 ·exact .inl hx
 ·simp only [List.mem_append,List.mem_singleton] at hx
  rcases hx with (h1|h1)|h1
  ·exact .inl (List.mem_of_mem_take h1)
  ·exact .inr h1
  ·exact .inl (List.mem_of_mem_drop h1)
theorem ok_setPeer {P:List (List Hd)} {i:Int} {h:Hd} (hP:∀ l∈P,l.length≤1000∧∀ x∈l,hOk x) (hh:hOk h):∀ l∈setPeer P i h,l.length≤140737488351232∧∀ x∈l,hOk x:=by
 intro l hl
 unfold setPeer at hl
 rcases List.mem_or_eq_of_mem_set hl with h1|rfl
 ·exact ⟨by have:=(hP l h1).1;omega,(hP l h1).2⟩
 ·have hg:(P.getD i.toNat []).length≤1000∧∀ x∈P.getD i.toNat [],hOk x:=by
   by_cases hi:i.toNat < P.length
   ·exact hP _ (mem_getD hi)
   ·rw [getD_out (by omega)]
    exact ⟨by simp,by simp⟩
  refine ⟨by have:=len_learn (P.getD i.toNat []) h;omega,fun x hx=>?_⟩
  rcases mem_learnL hx with h2|rfl
  ·exact hg.2 x h2
  ·exact hh
theorem okRoom_zero:okRoom room0:=⟨by simp,by simp,⟨by simp,by simp⟩,by simp⟩
theorem okRoom_new (n:Int):okRoom (newR n):=by
 unfold newR
 split
 ·exact okRoom_zero
 ·rename_i h
  refine ⟨by simp only [List.length_replicate];omega,fun l hl=>?_,⟨by simp,by simp⟩,by simp⟩
  rw [(List.mem_replicate.1 hl).2]
  exact ⟨by simp,by simp⟩
theorem ok_queue {n:NetP} {q:List Pk} (hq:n.queue.length≤3000) (hd:∀ p∈n.queue,p.data.length≤1000000) (h1:q.length≤1000000) (h2:∀ p∈q,p.data.length≤1000000) (ha:n.apart.length≤140737488351232):
  okNet ⟨n.queue++q,n.apart⟩∧∀ p∈n.queue++q,p.data.length≤1000000:=by
 refine ⟨⟨by simp only [List.length_append];omega,ha⟩,fun p hp=>?_⟩
 rcases List.mem_append.1 hp with h|h
 ·exact hd p h
 ·exact h2 p h
theorem ok_lose {n:NetP} {i:Int} (ho:okNet n) (hd:∀ p∈n.queue,p.data.length≤1000000):okNet (loseN n i)∧∀ p∈(loseN n i).queue,p.data.length≤1000000:=by
 unfold loseN
 split
 ·unfold cutN
  refine ⟨⟨?_,ho.2⟩,fun p hp=>?_⟩
  ·have:=ho.1
   simp only [List.length_append,List.length_take,List.length_drop]
   omega
  ·rcases List.mem_append.1 hp with h|h
   ·exact hd p (List.mem_of_mem_take h)
   ·exact hd p (List.mem_of_mem_drop h)
 ·exact ⟨⟨by simp,by simp⟩,by simp⟩
theorem atP_data {n:NetP} {i:Int} (hd:∀ p∈n.queue,p.data.length≤1000000):(atP n i).data.length≤1000000:=by
 unfold atP
 split
 ·rename_i h
  obtain ⟨k,rfl,hk⟩:=at_lt h
  rw [Int.toNat_natCast]
  exact hd _ (mem_getD hk)
 ·exact Nat.zero_le _
theorem okRoom_do {r:RoomP} {a:ActP} (ho:okRoom r) (hf:roomChk r=0→fewR r) (ha:hOk a.hand):okRoom (doR r a):=by
 unfold doR
 split
 ·rename_i h0
  have hc:roomChk r=0:=by
   unfold doE at h0
   split at h0
   ·cases h0
   ·rename_i h;exact Classical.not_not.1 h
  obtain ⟨hf1,hf2⟩:=hf hc
  obtain ⟨o1,o2,o3,o4⟩:=ho
  have h24:=(netChk_of hc).2.1
  have hP:∀ l∈r.peers,l.length≤1000∧∀ x∈l,hOk x:=fun l hl=>⟨hf2 l hl,(o2 l hl).2⟩
  have hsl:∀ (i:Int) (h:Hd),(setPeer r.peers i h).length≤140737488351232:=fun i h=>by rw [setPeer_len];exact o1
  unfold actR
  split
  ·have hq:=ok_queue (n:=r.net) (q:=tellPk r.peers.length a.peer a.hand) hf1 o4 (by
    unfold tellPk
    rw [List.length_map]
    have:=List.length_filter_le (fun k:Nat=>decide ((k:Int)≠a.peer)) (List.range r.peers.length)
    rw [List.length_range] at this
    omega) (fun p hp=>by
    unfold tellPk at hp
    obtain ⟨k,_,rfl⟩:=List.mem_map.1 hp
    have:=msg_len a.hand
    dsimp only
    omega) o3.2
   exact ⟨hsl _ _,ok_setPeer hP ha,hq.1,hq.2⟩
  split
  ·have hq:=ok_queue (n:=r.net) (q:=syncPk (r.peers.getD a.peer.toNat []) a.peer a.to_) hf1 o4 (by
    unfold syncPk
    rw [List.length_map]
    by_cases hi:a.peer.toNat < r.peers.length
    ·have:=hf2 _ (mem_getD (d:=[]) hi);omega
    ·rw [getD_out (by omega)];simp) (fun p hp=>by
    unfold syncPk at hp
    obtain ⟨k,_,rfl⟩:=List.mem_map.1 hp
    have:=msg_len k
    dsimp only
    omega) o3.2
   exact ⟨o1,o2,hq.1,hq.2⟩
  split
  ·have hl:=ok_lose (i:=a.at_) o3 o4
   have hd:(delP r.net a.at_).data.length≤1000000:=by
    unfold delP
    split
    ·exact Nat.zero_le _
    ·exact atP_data o4
   dsimp only
   split
   ·exact ⟨o1,o2,hl.1,hl.2⟩
   ·exact ⟨hsl _ _,ok_setPeer hP (read_hOk hd),hl.1,hl.2⟩
  split
  ·have hl:=ok_lose (i:=a.at_) o3 o4
   exact ⟨o1,o2,hl.1,hl.2⟩
  ·have hr:okNet (repN r.net a.at_)∧∀ p∈(repN r.net a.at_).queue,p.data.length≤1000000:=by
    unfold repN
    split
    ·exact ⟨⟨by simp,by simp⟩,by simp⟩
    ·unfold sendN
     split
     ·exact ok_queue hf1 o4 (by simp) (by intro p hp;rw [List.mem_singleton.1 hp];exact atP_data o4) o3.2
     ·exact ⟨⟨by simp,by simp⟩,by simp⟩
   exact ⟨o1,o2,hr.1,hr.2⟩
 ·exact okRoom_zero
theorem few_facts {r:RoomP} (hr:okArg r) (h:fewRB r=true):okRoom r∧(roomChk r=0→fewR r):=by
 obtain ⟨h1,⟨h2,h3⟩,h4⟩:=hr
 unfold fewRB at h
 simp only [Bool.and_eq_true] at h
 obtain ⟨⟨a1,a2⟩,a3,a4⟩:=h
 unfold fewN at a2
 rw [Bool.and_eq_true] at a2
 have q40:=of_decide_eq_true a2.1
 have hd:∀ p∈r.net.queue,p.data.length≤1000:=fun p hp=>by
  obtain ⟨i,hi,rfl⟩:=List.getElem_of_mem hp
  have:=of_decide_eq_true (List.all_eq_true.1 a4 i (by simpa using hi))
  rwa [List.getD_eq_getElem?_getD,List.getElem?_eq_getElem hi] at this
 refine ⟨⟨h1.1,h1.2,⟨by omega,h4⟩,fun p hp=>by have:=hd p hp;omega⟩,fun hc=>⟨by omega,fun l hl=>?_⟩⟩
 have h24:=(netChk_of hc).2.1
 obtain ⟨i,hi,rfl⟩:=List.getElem_of_mem hl
 have h5:r.peers.length≤5:=by
  rw [Bool.not_eq_true',Bool.and_eq_false_iff,decide_eq_false_iff_not,decide_eq_false_iff_not] at a1
  omega
 have:=of_decide_eq_true (List.all_eq_true.1 a3 i (by simp;omega))
 rw [List.getD_eq_getElem?_getD,List.getElem?_eq_getElem hi,Option.getD_some] at this
 omega
end Go.Proofs.YthidfoohhhkobaaGreat
