import Derived.Test.YthidfoohhhkobaaGreatG6
import Derived.Laws.EntriesVeiled
namespace Go.Proofs.YthidfoohhhkobaaGreat.Cd
set_option linter.unusedSimpArgs false
set_option linter.unusedVariables false
open Go.RowKit
attribute [local go_sem ↓] Go.wp_at_zero Go.wp_at_succ
structure Writer (w:World) (p:Addr) (q:Nat):Prop where
 var:w.cell? p=some (.pointer (some ⟨q,0,none⟩))
 f1:w.cell? ⟨q,1,none⟩=some (.func (.func 117) #[] #[])
 f2:w.cell? ⟨q,2,none⟩=some (.func (.func 120) #[] #[])
 f3:w.cell? ⟨q,3,none⟩=some (.func (.func 121) #[] #[.pointer (some p)])
theorem Writer.below {w w':World} {p:Addr} {q:Nat} (h:Writer w p q) (hb:Below w.heap.size w w'):Writer w' p q:=
 ⟨below_cell hb h.var,below_cell hb h.f1,below_cell hb h.f2,below_cell hb h.f3⟩
structure Writes (p:Addr) (base:Nat) (bs:List UInt8) (v:V) (k:Int) (bv c:Value) (w:World):Prop where
 w1:k=1→Calls Tryz.prog 117 #[bv,c] w (Wrote base (bs++v.enc) bv w)
 w2:k=2→Calls Tryz.prog 120 #[bv,c] w (Wrote base (bs++v.enc) bv w)
 w3:k=3→Calls Tryz.prog 121 #[bv,c,.pointer (some p)] w (Wrote base (bs++v.enc) bv w)
theorem V.encs_take_succ (l:List V) (k:Nat) (h:k < l.length):V.encs (l.take (k+1))=V.encs (l.take k)++l[k].enc:=by
 induction l generalizing k with
 |nil=>simp at h
 |cons v l ih=>
   cases k with
   |zero=>simp [V.encs]
   |succ k=>simp only [List.take_succ_cons,V.encs,List.getElem_cons_succ];rw [ih k (by simpa using h),List.append_assoc]
theorem V.encs_take_le (l:List V) (k:Nat) (h:k < l.length):(V.encs (l.take k)).length+l[k].enc.length≤(V.encs l).length:=by
 induction l generalizing k with
 |nil=>simp at h
 |cons v l ih=>
   cases k with
   |zero=>simp [V.encs]
   |succ k=>simp only [List.take_succ_cons,V.encs,List.getElem_cons_succ,List.length_append];have:=ih k (by simpa using h);omega
theorem V.oks_at (l:List V) (k:Nat) (h:k < l.length) (hok:V.oks l=true):l[k].ok=true:=by
 cases hx:l[k].ok with
 |true=>rfl
 |false=>rw [V.oks_false l k h hx] at hok;cases hok
theorem V.kind_of {v:V} {w:World} {k:Int} {n s sl:Value} (hok:v.ok=true) (hr:RepV w v (.agg #[.int .i64 k,n,s,sl])):k=1∨k=2∨k=3:=by
 obtain ⟨k',n',s',l'⟩:=v
 simp only [RepV] at hr
 obtain ⟨a,cap,hc,_⟩:=hr
 simp only [Value.agg.injEq,Array.mk.injEq,List.cons.injEq,Value.int.injEq,and_true,true_and] at hc
 obtain ⟨rfl,_⟩:=hc
 simp only [V.ok] at hok
 by_cases h1:k=1
 ·exact .inl h1
 ·rw [if_neg h1] at hok
  by_cases h2:k=2
  ·exact .inr (.inl h2)
  ·rw [if_neg h2] at hok
   by_cases h3:k=3
   ·exact .inr (.inr h3)
   ·rw [if_neg h3] at hok;cases hok
theorem below_a1d {w w':World} (h:Below w.heap.size w w') (o:Obj):Below w.heap.size w (w'.alloc o).drew:=(h.alloc h.size o).drew
theorem le_a1d {b:Nat} {w:World} (h:b≤w.heap.size) (o:Obj):b≤(w.alloc o).drew.heap.size:=by rw [size_a1d];omega
set_option maxRecDepth 100000 in
set_option maxHeartbeats 3200000 in
theorem write3_any (w0:World) (p:Addr) (q:Nat) (hW:Writer w0 p q) (base:Nat) (hw0:w0.heap.size≤base) (l:List V) (a:Option Addr) (cap:Nat) (hr:RepL w0 l a) (hok:V.oks l=true) (hl:l.length≤cap) (hcap:l.length≤140737488351232)
  (ih:∀ x,x∈l→∀ w bs bv k n s sl,RepV w0 x (.agg #[.int .i64 k,n,s,sl])→Below w0.heap.size w0 w→base≤w.heap.size→w.ownsRow base 5 1 bv bs.length (bs.map byteV)→(bs++x.enc).length≤1000000→Writes p base bs x k bv (.agg #[.int .i64 k,n,s,sl]) w)
  (bs:List UInt8) (bv:Value) (w:World) (n:Int) (s:ByteArray) (hb0:Below w0.heap.size w0 w) (hbase:base≤w.heap.size) (hown:w.ownsRow base 5 1 bv bs.length (bs.map byteV)) (hlen:(bs++3 :: (num l.length++V.encs l)).length≤1000000):
  Calls Tryz.prog 121 #[bv,.agg #[.int .i64 3,.int .i64 n,.string s,.slice a l.length cap],.pointer (some p)] w (Wrote base (bs++3 :: (num l.length++V.encs l)) bv w):=by
 have HO:=Lib.hid hown
 have HR:=Lib.hid hr
 have IH:=Lib.hid ih
 have hne:∀ g,bv.ownBlock=some g→g < w.heap.size:=fun g hg=>(hown.lt g hg).2
 have hge:∀ g,bv.ownBlock=some g→base≤g:=fun g hg=>(hown.lt g hg).1
 have hne':some w.heap.size≠bv.ownBlock:=fun e=>by have:=hne _ e.symm;omega
 have hle:=V.encs_len l
 simp only [List.length_append,List.length_cons] at hlen
 have K3:=Lib.hid (maxLen_le (n:=bs.length+1) (by omega))
 have K4:=Lib.hid (show (bs.length+1) * 1≤140737488355328 by omega)
 have KB:=Lib.hid (show (bs++[(3:UInt8)]).length≤1000000000 by simp;omega)
 have KS:=Lib.hid (show l.length < 18446744073709551616 by omega)
 have kw:IntKind.u64.wrap (l.length:Int)=l.length:=by simp [IntKind.wrap,IntKind.bits,IntKind.signed];omega
 have HGE:=Lib.hid hge
 have hll:l.length≤1000000:=by omega
 clear hown hne hr ih hge
 go_enter Tryz.func121,Tryz.ntmps121
 go_wp2_with fail
 go_region_held3 (fun w'=>w'.cell? ⟨w.heap.size,3,none⟩=some (.slice a l.length cap))
  (first
   |go_keep
   |exact hg1.cell ‹_› (fun e=>hne' e.symm)
   |exact hg2.cell ‹_› (fun e=>by rcases hg1.new _ e with h|h;(rw [size_a2d] at h;have h':w.heap.size+2≤w.heap.size:=h;omega);exact hne' h.symm))
  (first
   |(go_at_call 118;((with_reducible refine (numeral_any base (bs++[3]) _ l.length _ KS.out KB.out (Nat.le_trans (le_a2d hbase _ _) hg1.by_.size) hg1.own).mono ?_));rintro e w2 ⟨v2,rfl,hg2⟩)
   |(refine step_app (by rfl) _ _ (by rfl) elemB base bv bs.length (bs.map byteV) (by rfl) (((HO.out.alloc _).alloc _).drew) (.slice (some ⟨w.heap.size+1,0,none⟩) 1 1) 1 [.int .u8 3] (by rfl)
      (Source.one (e:=5) _ _ (heap_new_drew _ _ _ (size_a1 _ _)) rfl) (.inl rfl) K3.out K4.out (le_a2d hbase _ _) ?_;intro v1 w1 hg1';have hg1:=grew_snoc (b:=3) rfl hg1';clear hg1'))
 have hq:w2.cell? ⟨w.heap.size,3,none⟩=some (.slice a l.length cap):=by assumption
 have hgb:=(hg1.trans hg2).behind (((((Below.refl w.heap.size w).alloc (Nat.le_refl _) (Obj.cells #[.int .i64 3,.int .i64 n,.string s,.slice a l.length cap] 79)).alloc (by simp) (Obj.cells #[.int .u8 3] 5)).drew))
 have hsz2:w.heap.size≤w2.heap.size:=hgb.by_.size
 have HGB:=Lib.hid hgb
 clear hg1 hg2 hgb kw
 go_wp2
 go_loopw [0,19] (fun u i wr=>∃ k:Nat,k≤l.length∧i= .int .i64 k∧Grew base 5 1 w bv u (bs++3 :: (num l.length++V.encs (l.take k))).length ((bs++3 :: (num l.length++V.encs (l.take k))).map byteV) wr) (fun _ i _=>l.length - (intOf i).toNat)
 case atStart=>exact ⟨0,Nat.zero_le _,rfl,by simpa [V.encs] using HGB.out⟩
 case round=>
  obtain ⟨k,hk,rfl,hg⟩:=hrel
  have hbr:Below w0.heap.size w0 wr:=hb0.trans (hg.below (Nat.le_trans hw0 hbase) (fun g h=>Nat.le_trans hw0 (HGE.out g h)))
  have hbw:base≤wr.heap.size:=Nat.le_trans hbase hg.by_.size
  have hn3:∀ b,(b < base∨wr.heap.size≤b)→u0.ownBlock≠some b:=fun b hb e=>by have:=hg.own.lt b e;omega
  have HG:=Lib.hid hg
  clear hg
  by_cases hlt:k < l.length
  ·obtain ⟨b,off,k0,n0,s0,a',len',cap',rfl,g0,g1,g2,g3,hv⟩:=HR.out.at k hlt
   replace g0:=below_cell hbr g0
   replace g1:=below_cell hbr g1
   replace g2:=below_cell hbr g2
   replace g3:=below_cell hbr g3
   have hWr:=hW.below hbr
   have gp:=hWr.var
   have hpb:p.block < base:=Nat.lt_of_lt_of_le (World.block_lt_of_cell? _ _ hW.var) hw0
   have hqb:q < base:=Nat.lt_of_lt_of_le (World.block_lt_of_cell? _ _ hW.f1) hw0
   have hle2:=V.encs_take_le l k hlt
   have hle3:(bs++3 :: (num l.length++V.encs (l.take k))++l[k].enc).length≤1000000:=by simp only [List.length_append,List.length_cons];omega
   have hk0:=V.kind_of (V.oks_at l k hlt hok) hv
   have HV:=Lib.hid hv
   have HLE:=Lib.hid hle3
   clear hv hle3 hle2
   rcases hk0 with rfl|rfl|rfl
   ·have gF:wr.cell? ⟨q,1,none⟩=some (.func (.func 117) #[] #[]):=hWr.f1
    have ihx:=fun W h1 h2 h3=>(IH.out l[k] (List.getElem_mem _) W _ u0 1 (.int .i64 n0) (.string s0) (.slice a' len' cap') HV.out h1 h2 h3 HLE.out).w1 rfl
    have IHX:=Lib.hid ihx
    clear ihx
    go_wp2_with fail
    go_region_held3 (fun w'=>w'.cell? p=some (.pointer (some ⟨q,0,none⟩))∧w'.cell? ⟨q,1,none⟩=some (.func (.func 117) #[] #[])∧w'.cell? ⟨wr.heap.size,0,none⟩=some (.int .i64 1)∧w'.cell? ⟨wr.heap.size,1,none⟩=some (.int .i64 n0)∧w'.cell? ⟨wr.heap.size,2,none⟩=some (.string s0)∧w'.cell? ⟨wr.heap.size,3,none⟩=some (.slice a' len' cap'))
     (first
      |go_keep
      |(go_split_ands;refine ⟨?_,?_,?_,?_,?_,?_⟩<;>first |exact hg3.cell ‹_› (hn3 _ (.inl hpb))|exact hg3.cell ‹_› (hn3 _ (.inl hqb))|exact hg3.cell ‹_› (hn3 _ (.inr (Nat.le_refl _)))))
     (first
      |(go_at_call 117;((with_reducible refine (IHX.out _ (below_a1d hbr _) (le_a1d hbw _) ((HG.out.own.alloc _).drew)).mono ?_));rintro e w3 ⟨v3,rfl,hg3⟩))
    go_wp2
    go_roundw
    case rel=>
     refine ⟨k+1,by omega,by go_num,?_⟩
     have h3:=HG.out.trans (hg3.behind (((Below.refl _ _).alloc (Nat.le_refl _) _).drew))
     have e:bs++3 :: (num l.length++V.encs (l.take (k+1)))=(bs++3 :: (num l.length++V.encs (l.take k)))++l[k].enc:=by rw [V.encs_take_succ l k hlt];simp
     rw [e]
     exact h3
    case measure=>simp [intOf];omega
   ·have gF:wr.cell? ⟨q,2,none⟩=some (.func (.func 120) #[] #[]):=hWr.f2
    have ihx:=fun W h1 h2 h3=>(IH.out l[k] (List.getElem_mem _) W _ u0 2 (.int .i64 n0) (.string s0) (.slice a' len' cap') HV.out h1 h2 h3 HLE.out).w2 rfl
    have IHX:=Lib.hid ihx
    clear ihx
    go_wp2_with fail
    go_region_held3 (fun w'=>w'.cell? p=some (.pointer (some ⟨q,0,none⟩))∧w'.cell? ⟨q,2,none⟩=some (.func (.func 120) #[] #[])∧w'.cell? ⟨wr.heap.size,0,none⟩=some (.int .i64 2)∧w'.cell? ⟨wr.heap.size,1,none⟩=some (.int .i64 n0)∧w'.cell? ⟨wr.heap.size,2,none⟩=some (.string s0)∧w'.cell? ⟨wr.heap.size,3,none⟩=some (.slice a' len' cap'))
     (first
      |go_keep
      |(go_split_ands;refine ⟨?_,?_,?_,?_,?_,?_⟩<;>first |exact hg3.cell ‹_› (hn3 _ (.inl hpb))|exact hg3.cell ‹_› (hn3 _ (.inl hqb))|exact hg3.cell ‹_› (hn3 _ (.inr (Nat.le_refl _)))))
     (first
      |(go_at_call 120;((with_reducible refine (IHX.out _ (below_a1d hbr _) (le_a1d hbw _) ((HG.out.own.alloc _).drew)).mono ?_));rintro e w3 ⟨v3,rfl,hg3⟩))
    go_wp2
    go_roundw
    case rel=>
     refine ⟨k+1,by omega,by go_num,?_⟩
     have h3:=HG.out.trans (hg3.behind (((Below.refl _ _).alloc (Nat.le_refl _) _).drew))
     have e:bs++3 :: (num l.length++V.encs (l.take (k+1)))=(bs++3 :: (num l.length++V.encs (l.take k)))++l[k].enc:=by rw [V.encs_take_succ l k hlt];simp
     rw [e]
     exact h3
    case measure=>simp [intOf];omega
   ·have gF:wr.cell? ⟨q,3,none⟩=some (.func (.func 121) #[] #[.pointer (some p)]):=hWr.f3
    have ihx:=fun W h1 h2 h3=>(IH.out l[k] (List.getElem_mem _) W _ u0 3 (.int .i64 n0) (.string s0) (.slice a' len' cap') HV.out h1 h2 h3 HLE.out).w3 rfl
    have IHX:=Lib.hid ihx
    clear ihx
    go_wp2_with fail
    go_region_held3 (fun w'=>w'.cell? p=some (.pointer (some ⟨q,0,none⟩))∧w'.cell? ⟨q,3,none⟩=some (.func (.func 121) #[] #[.pointer (some p)])∧w'.cell? ⟨wr.heap.size,0,none⟩=some (.int .i64 3)∧w'.cell? ⟨wr.heap.size,1,none⟩=some (.int .i64 n0)∧w'.cell? ⟨wr.heap.size,2,none⟩=some (.string s0)∧w'.cell? ⟨wr.heap.size,3,none⟩=some (.slice a' len' cap'))
     (first
      |go_keep
      |(go_split_ands;refine ⟨?_,?_,?_,?_,?_,?_⟩<;>first |exact hg3.cell ‹_› (hn3 _ (.inl hpb))|exact hg3.cell ‹_› (hn3 _ (.inl hqb))|exact hg3.cell ‹_› (hn3 _ (.inr (Nat.le_refl _)))))
     (first
      |(go_at_call 121;((with_reducible refine (IHX.out _ (below_a1d hbr _) (le_a1d hbw _) ((HG.out.own.alloc _).drew)).mono ?_));rintro e w3 ⟨v3,rfl,hg3⟩))
    go_wp2
    go_roundw
    case rel=>
     refine ⟨k+1,by omega,by go_num,?_⟩
     have h3:=HG.out.trans (hg3.behind (((Below.refl _ _).alloc (Nat.le_refl _) _).drew))
     have e:bs++3 :: (num l.length++V.encs (l.take (k+1)))=(bs++3 :: (num l.length++V.encs (l.take k)))++l[k].enc:=by rw [V.encs_take_succ l k hlt];simp
     rw [e]
     exact h3
    case measure=>simp [intOf];omega
  ·have e4:l.take k=l:=List.take_of_length_le (by omega)
   rw [e4] at HG
   clear e4
   go_wp2
   go_ret
   exact ⟨u0,rfl,HG.out⟩
end Go.Proofs.YthidfoohhhkobaaGreat.Cd

namespace Go.Proofs.YthidfoohhhkobaaGreat.Cd
set_option linter.unusedSimpArgs false
set_option linter.unusedVariables false
open Go.RowKit
attribute [local go_sem ↓] Go.wp_at_zero Go.wp_at_succ
theorem write_any (w0:World) (p:Addr) (q:Nat) (hW:Writer w0 p q) (base:Nat) (hw0:w0.heap.size≤base) (m:Nat):∀ (x:V),SizeOf.sizeOf x≤m→x.ok=true→∀ w bs bv k n s sl,RepV w0 x (.agg #[.int .i64 k,n,s,sl])→Below w0.heap.size w0 w→base≤w.heap.size→w.ownsRow base 5 1 bv bs.length (bs.map byteV)→(bs++x.enc).length≤1000000→Writes p base bs x k bv (.agg #[.int .i64 k,n,s,sl]) w:=by
 induction m with
 |zero=>intro x hm;cases x;simp at hm
 |succ m ih=>
   intro x hm hok w bs bv k n s sl hr hb hbase hown hlen
   obtain ⟨k',n',s',l'⟩:=x
   simp only [RepV] at hr
   obtain ⟨a,cap,hc,hk,hn,hs,hl,hcap,hrl⟩:=hr
   simp only [Value.agg.injEq,Array.mk.injEq,List.cons.injEq,Value.int.injEq,and_true,true_and] at hc
   obtain ⟨rfl,rfl,rfl,rfl⟩:=hc
   refine ⟨fun hk1=>?_,fun hk2=>?_,fun hk3=>?_⟩
   ·subst hk1
    have e:(V.mk 1 n' s' l').enc=1 :: num (zz n'):=by simp [V.enc]
    rw [e] at hlen ⊢
    exact write1_any base bs bv 1 n' s' _ w hn (by simp at hlen;omega) hbase hown
   ·subst hk2
    have e:(V.mk 2 n' s' l').enc=2 :: (num s'.length++s'):=by simp [V.enc]
    rw [e] at hlen ⊢
    exact write2_any base bs bv 2 n' s' _ w (by simp at hlen;omega) (by simp at hlen;omega) hbase hown
   ·subst hk3
    have e:(V.mk 3 n' s' l').enc=3 :: (num l'.length++V.encs l'):=by simp [V.enc]
    rw [e] at hlen ⊢
    have hok':V.oks l'=true:=by
     simp only [V.ok] at hok
     rw [if_neg (by decide),if_neg (by decide),if_pos trivial] at hok
     simp only [Bool.and_eq_true] at hok
     exact hok.2
    refine write3_any w0 p q hW base hw0 l' a cap hrl hok' hl hcap ?_ bs bv w n' _ hb hbase hown hlen
    intro x hx
    refine ih x ?_ ?_
    ·have:=List.sizeOf_lt_of_mem hx
     simp at hm;omega
    ·obtain ⟨i,hi,rfl⟩:=List.mem_iff_getElem.1 hx
     exact V.oks_at l' i hi hok'
def NewWriterPost (w:World) (e:Ending) (w':World):Prop:=∃ p q,e= .returned (.pointer (some ⟨q,0,none⟩))∧Writer w' p q∧Below w.heap.size w w'∧q < w'.heap.size
set_option maxRecDepth 100000 in
set_option maxHeartbeats 1000000 in
theorem newWriter_any (w:World):Calls Tryz.prog 104 #[] w (NewWriterPost w):=by
 have hmf:∀ (fn:Fn) (first cap:Array Value) (w:World),(Instr.makeFunc fn first cap).run Tryz.prog w= .ok (.func fn first cap) w:=fun _ _ _ _=>rfl
 go_enter Tryz.func104,Tryz.ntmps104
 go_wp2
 go_ret
 exact ⟨⟨w.heap.size+1,0,none⟩,w.heap.size,rfl,⟨by simp,by simp,by simp,by simp⟩,((Below.refl _ _).alloc (Nat.le_refl _) _).alloc (by simp) _,by simp;omega⟩
theorem V.chk_of {v:V}:v.chk=if v.ok then (if 16 < v.depth then 2 else 0) else 1:=rfl
set_option maxHeartbeats 1000000 in
theorem check_any (v:V) (w:World) (k n:Int) (s:ByteArray) (a:Option Addr) (len cap:Nat) (hd:v.depth≤1000000) (hr:RepV w v (.agg #[.int .i64 k,.int .i64 n,.string s,.slice a len cap])):Calls Tryz.prog 103 #[.agg #[.int .i64 k,.int .i64 n,.string s,.slice a len cap]] w (GivesI v.chk w):=by
 have hf:=fun W hb=>formed_any _ v W _ (Nat.le_refl _) hd (RepV.below (w':=W) hb hr)
 have HF:=Lib.hid hf
 clear hf hr
 by_cases hok:v.ok=true
 ·have e1:v.fd=v.depth:=by unfold V.fd;rw [if_pos hok]
  by_cases h16:(16:Int) < v.depth
  ·have ez:v.chk=2:=by rw [V.chk_of,if_pos hok,if_pos (by omega)]
   rw [ez]
   have E1:=Lib.hid e1
   clear e1 ez
   go_enter Tryz.func103,Tryz.ntmps103
   go_wp2_with fail
   refine (HF.out _ ((Below.refl _ _).alloc (Nat.le_refl _) _)).mono ?_
   rintro e w1 ⟨rfl,hb1⟩
   rw [E1.out]
   go_wp2
   go_ret
   exact givesI_of rfl (((Below.refl _ _).alloc (Nat.le_refl _) _).trans (hb1.mono (by simp)))
  ·have ez:v.chk=0:=by rw [V.chk_of,if_pos hok,if_neg (by omega)]
   rw [ez]
   have E1:=Lib.hid e1
   clear e1 ez
   go_enter Tryz.func103,Tryz.ntmps103
   go_wp2_with fail
   refine (HF.out _ ((Below.refl _ _).alloc (Nat.le_refl _) _)).mono ?_
   rintro e w1 ⟨rfl,hb1⟩
   rw [E1.out]
   go_wp2
   go_ret
   exact givesI_of rfl (((Below.refl _ _).alloc (Nat.le_refl _) _).trans (hb1.mono (by simp)))
 ·have hok':v.ok=false:=by simpa using hok
  have ez:v.chk=1:=by rw [V.chk_of,if_neg hok]
  rw [ez]
  clear hok ez
  go_enter Tryz.func103,Tryz.ntmps103
  go_wp2_with fail
  refine (HF.out _ ((Below.refl _ _).alloc (Nat.le_refl _) _)).mono ?_
  rintro e w1 ⟨rfl,hb1⟩
  go_wp2
  go_ret
  exact givesI_of rfl (((Below.refl _ _).alloc (Nat.le_refl _) _).trans (hb1.mono (by simp)))
def V.out (v:V):List UInt8:=if v.chk=0 then v.enc else []
def EncPost (v:V) (w:World) (e:Ending) (w':World):Prop:=
 ∃ v',e= .returned (.tuple #[v',.int .i64 v.chk])∧w'.ownsRow w.heap.size 5 1 v' v.out.length (v.out.map byteV)∧Below w.heap.size w w'
theorem RepV.form {w:World} {v:V} {c:Value} (h:RepV w v c):∃ k n s a len cap,c= .agg #[.int .i64 k,.int .i64 n,.string s,.slice a len cap]:=by
 obtain ⟨k,n,s,l⟩:=v
 simp only [RepV] at h
 obtain ⟨a,cap,rfl,_⟩:=h
 exact ⟨_,_,_,_,_,_,rfl⟩
theorem enc_close {xs:List UInt8} {w w1 w2 w3:World} {v3:Value} {e:Ending} (he:e= .returned (.tuple #[v3,.int .i64 0])) (hg:Grew w2.heap.size 5 1 w2 (.slice none 0 0) v3 ([]++xs).length (([]++xs).map byteV) w3) (hb2:Below w1.drew.heap.size w1.drew w2) (hb:Below w.heap.size w w1):
  ∃ v',e= .returned (.tuple #[v',.int .i64 0])∧w3.ownsRow w.heap.size 5 1 v' xs.length (xs.map byteV)∧Below w.heap.size w w3:=by
 have hs2:w1.heap.size≤w2.heap.size:=hb2.size
 refine ⟨v3,he,?_,?_⟩
 ·obtain ⟨h1,h2⟩:=hg.own
  simp only [List.nil_append] at h1 h2
  refine ⟨h1,h2.imp id ?_⟩
  rintro ⟨g,cap,cur,a1,a2,a3⟩
  exact ⟨g,cap,cur,a1,Nat.le_trans hb.size (Nat.le_trans hs2 a2),a3⟩
 ·exact hb.trans (((Below.refl _ w1).drew.trans (hb2.mono (by exact Nat.le_trans hb.size (Nat.le_refl _)))).trans ((hg.below (Nat.le_refl _) (fun g h=>by cases h)).mono (Nat.le_trans hb.size hs2)))
set_option maxRecDepth 100000 in
set_option maxHeartbeats 3200000 in
theorem encode_any (v:V) (w:World) (c:Value) (hd:v.depth≤1000000) (hlen:v.enc.length≤1000000) (hr:RepV w v c):Calls Tryz.prog 81 #[c] w (EncPost v w):=by
 obtain ⟨k,n,s,a,len,cap,rfl⟩:=hr.form
 have hc:=fun W hb=>check_any v W k n s a len cap hd (RepV.below (w':=W) hb hr)
 have HC:=Lib.hid hc
 have HR:=Lib.hid hr
 clear hc
 by_cases hz:v.chk=0
 ·have hok:v.ok=true:=by
   cases hx:v.ok with
   |true=>rfl
   |false=>rw [V.chk_of,hx] at hz;simp at hz
  have hk:=V.kind_of hok hr
  unfold EncPost V.out
  rw [hz,if_pos rfl]
  rw [hz] at HC
  clear hz hr
  rcases hk with rfl|rfl|rfl
  ·have ihx:=fun (w0:World) (p:Addr) (q:Nat) (h1:Writer w0 p q) (h2:RepV w0 v (.agg #[.int .i64 1,.int .i64 n,.string s,.slice a len cap]))=>
    (write_any w0 p q h1 w0.heap.size (Nat.le_refl _) _ v (Nat.le_refl _) hok w0 [] (.slice none 0 0) 1 (.int .i64 n) (.string s) (.slice a len cap) h2 (Below.refl _ _) (Nat.le_refl _) (World.ownsRow_nil _ _ _ _) (by simpa using hlen)).w1 rfl
   have IHX:=Lib.hid ihx
   clear ihx
   go_enter Tryz.func81,Tryz.ntmps81
   go_wp2_with fail
   refine (HC.out _ ((Below.refl _ _).alloc (Nat.le_refl _) _)).mono ?_
   rintro e w1 ⟨rfl,hb1⟩
   have q0:w1.cell? ⟨w.heap.size,0,none⟩=some (.int .i64 1):=(hb1.cell (by simp)).trans (by go_simp)
   have q1:w1.cell? ⟨w.heap.size,1,none⟩=some (.int .i64 n):=(hb1.cell (by simp)).trans (by go_simp)
   have q2:w1.cell? ⟨w.heap.size,2,none⟩=some (.string s):=(hb1.cell (by simp)).trans (by go_simp)
   have q3:w1.cell? ⟨w.heap.size,3,none⟩=some (.slice a len cap):=(hb1.cell (by simp)).trans (by go_simp)
   have hsz:w.heap.size < w1.heap.size:=by have:=hb1.size;simp at this;omega
   have hbw:Below w.heap.size w w1:=((Below.refl _ _).alloc (Nat.le_refl _) _).trans (hb1.mono (by simp))
   go_wp2_with fail
   go_region_with (first
     |(go_at_call 104;((with_reducible refine (newWriter_any _).mono ?_));rintro e w2 ⟨p,q,rfl,hW,hb2,hq⟩;have gF:=hW.f1;have e0:=below_cell hb2 q0;have e1:=below_cell hb2 q1;have e2:=below_cell hb2 q2;have e3:=below_cell hb2 q3)
     |(go_at_call 117;((with_reducible refine (IHX.out _ p q hW (RepV.below hb2 (RepV.below (Below.refl _ _).drew (RepV.below hbw HR.out)))).mono ?_));rintro e w3 ⟨v3,rfl,hg3⟩))
   all_goals
    go_wp2
    go_ret2
    exact enc_close rfl hg3 hb2 hbw
  ·have ihx:=fun (w0:World) (p:Addr) (q:Nat) (h1:Writer w0 p q) (h2:RepV w0 v (.agg #[.int .i64 2,.int .i64 n,.string s,.slice a len cap]))=>
    (write_any w0 p q h1 w0.heap.size (Nat.le_refl _) _ v (Nat.le_refl _) hok w0 [] (.slice none 0 0) 2 (.int .i64 n) (.string s) (.slice a len cap) h2 (Below.refl _ _) (Nat.le_refl _) (World.ownsRow_nil _ _ _ _) (by simpa using hlen)).w2 rfl
   have IHX:=Lib.hid ihx
   clear ihx
   go_enter Tryz.func81,Tryz.ntmps81
   go_wp2_with fail
   refine (HC.out _ ((Below.refl _ _).alloc (Nat.le_refl _) _)).mono ?_
   rintro e w1 ⟨rfl,hb1⟩
   have q0:w1.cell? ⟨w.heap.size,0,none⟩=some (.int .i64 2):=(hb1.cell (by simp)).trans (by go_simp)
   have q1:w1.cell? ⟨w.heap.size,1,none⟩=some (.int .i64 n):=(hb1.cell (by simp)).trans (by go_simp)
   have q2:w1.cell? ⟨w.heap.size,2,none⟩=some (.string s):=(hb1.cell (by simp)).trans (by go_simp)
   have q3:w1.cell? ⟨w.heap.size,3,none⟩=some (.slice a len cap):=(hb1.cell (by simp)).trans (by go_simp)
   have hsz:w.heap.size < w1.heap.size:=by have:=hb1.size;simp at this;omega
   have hbw:Below w.heap.size w w1:=((Below.refl _ _).alloc (Nat.le_refl _) _).trans (hb1.mono (by simp))
   go_wp2_with fail
   go_region_with (first
     |(go_at_call 104;((with_reducible refine (newWriter_any _).mono ?_));rintro e w2 ⟨p,q,rfl,hW,hb2,hq⟩;have gF:=hW.f2;have e0:=below_cell hb2 q0;have e1:=below_cell hb2 q1;have e2:=below_cell hb2 q2;have e3:=below_cell hb2 q3)
     |(go_at_call 120;((with_reducible refine (IHX.out _ p q hW (RepV.below hb2 (RepV.below (Below.refl _ _).drew (RepV.below hbw HR.out)))).mono ?_));rintro e w3 ⟨v3,rfl,hg3⟩))
   all_goals
    go_wp2
    go_ret2
    exact enc_close rfl hg3 hb2 hbw
  ·have ihx:=fun (w0:World) (p:Addr) (q:Nat) (h1:Writer w0 p q) (h2:RepV w0 v (.agg #[.int .i64 3,.int .i64 n,.string s,.slice a len cap]))=>
    (write_any w0 p q h1 w0.heap.size (Nat.le_refl _) _ v (Nat.le_refl _) hok w0 [] (.slice none 0 0) 3 (.int .i64 n) (.string s) (.slice a len cap) h2 (Below.refl _ _) (Nat.le_refl _) (World.ownsRow_nil _ _ _ _) (by simpa using hlen)).w3 rfl
   have IHX:=Lib.hid ihx
   clear ihx
   go_enter Tryz.func81,Tryz.ntmps81
   go_wp2_with fail
   refine (HC.out _ ((Below.refl _ _).alloc (Nat.le_refl _) _)).mono ?_
   rintro e w1 ⟨rfl,hb1⟩
   have q0:w1.cell? ⟨w.heap.size,0,none⟩=some (.int .i64 3):=(hb1.cell (by simp)).trans (by go_simp)
   have q1:w1.cell? ⟨w.heap.size,1,none⟩=some (.int .i64 n):=(hb1.cell (by simp)).trans (by go_simp)
   have q2:w1.cell? ⟨w.heap.size,2,none⟩=some (.string s):=(hb1.cell (by simp)).trans (by go_simp)
   have q3:w1.cell? ⟨w.heap.size,3,none⟩=some (.slice a len cap):=(hb1.cell (by simp)).trans (by go_simp)
   have hsz:w.heap.size < w1.heap.size:=by have:=hb1.size;simp at this;omega
   have hbw:Below w.heap.size w w1:=((Below.refl _ _).alloc (Nat.le_refl _) _).trans (hb1.mono (by simp))
   go_wp2_with fail
   go_region_with (first
     |(go_at_call 104;((with_reducible refine (newWriter_any _).mono ?_));rintro e w2 ⟨p,q,rfl,hW,hb2,hq⟩;have gF:=hW.f3;have e0:=below_cell hb2 q0;have e1:=below_cell hb2 q1;have e2:=below_cell hb2 q2;have e3:=below_cell hb2 q3)
     |(go_at_call 121;((with_reducible refine (IHX.out _ p q hW (RepV.below hb2 (RepV.below (Below.refl _ _).drew (RepV.below hbw HR.out)))).mono ?_));rintro e w3 ⟨v3,rfl,hg3⟩))
   all_goals
    go_wp2
    go_ret2
    exact enc_close rfl hg3 hb2 hbw
 ·have hz':(v.chk != 0)=true:=by simpa using hz
  have e1:v.out=[]:=by unfold V.out;rw [if_neg hz]
  unfold EncPost
  rw [e1]
  clear hr hz e1
  go_enter Tryz.func81,Tryz.ntmps81
  go_wp2_with fail
  refine (HC.out _ ((Below.refl _ _).alloc (Nat.le_refl _) _)).mono ?_
  rintro e w1 ⟨rfl,hb1⟩
  go_wp2
  go_ret2
  exact ⟨_,rfl,World.ownsRow_nil _ _ _ _,((Below.refl _ _).alloc (Nat.le_refl _) _).trans (hb1.mono (by simp))⟩
end Go.Proofs.YthidfoohhhkobaaGreat.Cd

namespace Go.Proofs.YthidfoohhhkobaaGreat.Cd
set_option linter.unusedSimpArgs false
set_option linter.unusedVariables false
open Go.RowKit
attribute [local go_sem ↓] Go.wp_at_zero Go.wp_at_succ
def Bytes (w:World) (a:Option Addr) (bs:List UInt8):Prop:=
 bs=[]∨∃ b off,a=some ⟨b,off,none⟩∧∀ i (h:i < bs.length),w.cell? ⟨b,off+i,none⟩=some (byteV bs[i])
theorem Bytes.keep {w w':World} {a:Option Addr} {bs:List UInt8} (h:Bytes w a bs) (hk:∀ p v,w.cell? p=some v→(∀ b off,a=some ⟨b,off,none⟩→p.block=b)→w'.cell? p=some v):Bytes w' a bs:=by
 rcases h with h|⟨b,off,rfl,hc⟩
 ·exact .inl h
 ·exact .inr ⟨b,off,rfl,fun i hi=>hk _ _ (hc i hi) (fun b' off' e=>by cases e;rfl)⟩
theorem Bytes.below {w w':World} {a:Option Addr} {bs:List UInt8} (h:Bytes w a bs) (hb:Below w.heap.size w w'):Bytes w' a bs:=h.keep fun _ _ hc _=>below_cell hb hc
theorem Bytes.take {w:World} {a:Option Addr} {bs:List UInt8} (h:Bytes w a bs) (n:Nat):Bytes w a (bs.take n):=by
 rcases h with h|⟨b,off,rfl,hc⟩
 ·left;simp [h]
 ·exact .inr ⟨b,off,rfl,fun i hi=>by simp at hi;simpa using hc i (by omega)⟩
def cutA (a:Option Addr) (cap n:Nat):Option Addr:=if cap=n then a else a.map (·.add n)
theorem Bytes.drop {w:World} {a:Option Addr} {bs:List UInt8} {cap:Nat} (h:Bytes w a bs) (hcap:bs.length≤cap) (n:Nat):Bytes w (cutA a cap n) (bs.drop n):=by
 by_cases hn:bs.length≤n
 ·left;simp [hn]
 ·rcases h with h|⟨b,off,rfl,hc⟩
  ·left;simp [h]
  ·right
   unfold cutA
   rw [if_neg (by omega)]
   refine ⟨b,off+n,?_,fun i hi=>?_⟩
   ·simp only [Option.map_some,Addr.add]
    split
    ·rename_i h0;simp [h0]
    ·rfl
   ·simp at hi
    have:=hc (n+i) (by omega)
    rw [Nat.add_assoc]
    simpa using this
def Rd (w:World) (B:Nat) (bs:List UInt8):Prop:=
 ∃ a cap,w.heap[B]? =some (.cells #[.slice a bs.length cap] 133 (0,0))∧bs.length≤cap∧bs.length≤1000000∧Bytes w a bs∧(∀ ad,a=some ad→ad.block < B)
def codeP:List PanicEntry:=[{ v:= .iface 41 (.int .i64 10),recovered:=false }]
set_option maxHeartbeats 1000000 in
theorem want_yes (p:Value) (w:World):Calls Tryz.prog 93 #[p,.bool true] w fun e w'=>e= .returned (.tuple #[])∧w=w':=by
 go_enter Tryz.func93,Tryz.ntmps93
 go_wp2
 go_end0
 exact ⟨rfl,rfl⟩
set_option maxHeartbeats 1000000 in
theorem want_no (p:Value) (w:World):Calls Tryz.prog 93 #[p,.bool false] w fun e w'=>e= .panicked codeP∧w=w':=by
 go_enter Tryz.func93,Tryz.ntmps93
 go_wp2
 exact ⟨rfl,rfl,rfl⟩
set_option maxRecDepth 100000 in
set_option maxHeartbeats 1000000 in
theorem take_yes (B:Nat) (a:Option Addr) (len cap:Nat) (n:Nat) (w:World) (hB:w.heap[B]? =some (.cells #[.slice a len cap] 133 (0,0))) (hcap:len≤cap) (hc2:len≤140737488351232) (hn:n≤len):
  Calls Tryz.prog 108 #[.pointer (some ⟨B,0,none⟩),.int .i64 n] w fun e w'=>e= .returned (.slice a n n)∧w'=w.setCell ⟨B,0,none⟩ (.slice (cutA a cap n) (len - n) (cap - n)):=by
 have hc:w.cell? ⟨B,0,none⟩=some (.slice a len cap):=by simp [World.cell?,hB]
 have hf:w.frozen? ⟨B,0,none⟩=false:=by simp [World.frozen?,hB]
 clear hB
 have HW:Hid (∀ p w,Calls Tryz.prog 93 #[p,.bool true] w fun e w'=>e= .returned (.tuple #[])∧w=w'):=want_yes
 go_enter Tryz.func108,Tryz.ntmps108
 go_wp2_with fail
 refine (HW.out _ _).mono ?_
 rintro e w' ⟨rfl,rfl⟩
 go_wp2
 all_goals
  go_ret
  exact ⟨rfl,by simp [cutA, *]⟩
set_option maxRecDepth 100000 in
set_option maxHeartbeats 1000000 in
theorem take_no (B:Nat) (a:Option Addr) (len cap:Nat) (n:Int) (w:World) (hB:w.heap[B]? =some (.cells #[.slice a len cap] 133 (0,0))) (hn:(len:Int) < n):
  Calls Tryz.prog 108 #[.pointer (some ⟨B,0,none⟩),.int .i64 n] w fun e w'=>e= .panicked codeP∧w=w':=by
 have hc:w.cell? ⟨B,0,none⟩=some (.slice a len cap):=by simp [World.cell?,hB]
 clear hB
 have HW:Hid (∀ p w,Calls Tryz.prog 93 #[p,.bool false] w fun e w'=>e= .panicked codeP∧w=w'):=want_no
 have hd:decide (n≤(len:Int))=false:=by simp;omega
 go_enter Tryz.func108,Tryz.ntmps108
 go_wp2_with fail
 with_reducible refine (HW.out _ _).mono ?_
 rintro e w' ⟨rfl,rfl⟩
 exact ⟨rfl,rfl,rfl⟩
theorem cell_of {w:World} {B:Nat} {v:Value} {t:TypeId} (h:w.heap[B]? =some (.cells #[v] t (0,0))):w.cell? ⟨B,0,none⟩=some v:=by simp [World.cell?,h]
theorem heap_setCell1 {w:World} {B:Nat} {v u:Value} {t:TypeId} (h:w.heap[B]? =some (.cells #[v] t (0,0))):(w.setCell ⟨B,0,none⟩ u).heap[B]? =some (.cells #[u] t (0,0)):=by
 simp only [World.setCell,Array.getElem?_modify,h]
 simp
theorem grownBy_setCell1 (w:World) (B:Nat) (u:Value):w.grownBy (w.setCell ⟨B,0,none⟩ u) (some B):=
 ⟨rfl,rfl,rfl,by simp [World.setCell],fun k _ hk=>Below.heap_setCell w ⟨B,0,none⟩ u k (fun e=>hk (by rw [e]))⟩
theorem take_rd {B:Nat} {bs:List UInt8} {w:World} (hr:Rd w B bs) (n:Nat) (hn:n≤bs.length):
  Calls Tryz.prog 108 #[.pointer (some ⟨B,0,none⟩),.int .i64 n] w fun e w'=>∃ a,e= .returned (.slice a n n)∧Bytes w' a (bs.take n)∧(∀ ad,a=some ad→ad.block < B)∧Rd w' B (bs.drop n)∧w.grownBy w' (some B):=by
 obtain ⟨a,cap,hB,hl,hcap,hby,hlt⟩:=hr
 refine (take_yes B a bs.length cap n w hB hl (by omega) hn).mono ?_
 rintro e w' ⟨rfl,rfl⟩
 have hlt2:∀ ad,cutA a cap n=some ad→ad.block < B:=by
  intro ad h
  unfold cutA at h
  split at h
  ·exact hlt ad h
  ·cases ha:a with
   |none=>rw [ha] at h;cases h
   |some x=>
     rw [ha] at h
     simp only [Option.map_some,Option.some.injEq] at h
     subst h
     have:=hlt x ha
     unfold Addr.add
     split<;>exact this
 have hkeep:∀ a' u,(∀ ad,a'=some ad→ad.block < B)→Bytes w a' u→Bytes (w.setCell ⟨B,0,none⟩ (.slice (cutA a cap n) (bs.length - n) (cap - n))) a' u:=by
  intro a' u h1 hu
  rcases hu with h|⟨b,off,rfl,hc⟩
  ·exact .inl h
  ·have:=h1 _ rfl
   exact .inr ⟨b,off,rfl,fun i hi=>(grownBy_setCell1 w B _).cell (hc i hi) (fun e=>by injection e with e;have e':b=B:=e;have h2:b < B:=this;omega)⟩
 refine ⟨a,rfl,hkeep a _ hlt (hby.take n),hlt,⟨cutA a cap n,cap - n,?_,?_,by simp;omega,hkeep _ _ hlt2 (hby.drop hl n),hlt2⟩,grownBy_setCell1 w B _⟩
 ·rw [List.length_drop]
  exact heap_setCell1 hB
 ·rw [List.length_drop];omega
theorem take_rd_no {B:Nat} {bs:List UInt8} {w:World} (hr:Rd w B bs) (n:Int) (hn:(bs.length:Int) < n):
  Calls Tryz.prog 108 #[.pointer (some ⟨B,0,none⟩),.int .i64 n] w fun e w'=>e= .panicked codeP∧w=w':=by
 obtain ⟨a,cap,hB,hl,hcap,hby,hlt⟩:=hr
 exact take_no B a bs.length cap n w hB hn
end Go.Proofs.YthidfoohhhkobaaGreat.Cd

namespace Go.Proofs.YthidfoohhhkobaaGreat.Cd
set_option linter.unusedSimpArgs false
set_option linter.unusedVariables false
open Go.RowKit
theorem grownBy_trans1 {a b c:World} {B:Nat} (h:a.grownBy b (some B)) (k:b.grownBy c (some B)):a.grownBy c (some B):=h.andThen k (fun j hj=> .inr hj)
def numK (i u:Nat) (o:Option (Nat×List UInt8)):Option (Nat×List UInt8):=o.map fun p=>(u+p.1 * 128 ^ i,p.2)
theorem numK_zero (o:Option (Nat×List UInt8)):numK 0 0 o=o:=by
 unfold numK
 cases o with
 |none=>rfl
 |some p=>simp
theorem num_nil (f i:Nat):decN (f+1) i []=none:=rfl
theorem num_bad {f i:Nat} {c:UInt8} {r:List UInt8} (h:¬ ((i=0∨c.toNat≠0)∧(i < 9∨c.toNat≤1))):decN (f+1) i (c :: r)=none:=by
 unfold decN;rw [if_neg h]
theorem num_end {f i u:Nat} {c:UInt8} {r:List UInt8} (h:(i=0∨c.toNat≠0)∧(i < 9∨c.toNat≤1)) (hc:c.toNat < 128):numK i u (decN (f+1) i (c :: r))=some (u+c.toNat * 128 ^ i,r):=by
 unfold decN numK;rw [if_pos h,if_pos hc];rfl
theorem num_go {f i u:Nat} {c:UInt8} {r:List UInt8} (h:(i=0∨c.toNat≠0)∧(i < 9∨c.toNat≤1)) (hc:¬ c.toNat < 128):numK i u (decN (f+1) i (c :: r))=numK (i+1) (u+(c.toNat - 128) * 128 ^ i) (decN f (i+1) r):=by
 have h1:decN (f+1) i (c :: r)=(decN f (i+1) r).map fun p=>(c.toNat - 128+128 * p.1,p.2):=by rw [decN];rw [if_pos h,if_neg hc]
 rw [h1]
 unfold numK
 cases decN f (i+1) r with
 |none=>rfl
 |some p=>
   simp only [Option.map_some,Option.some.injEq,Prod.mk.injEq,and_true]
   rw [Nat.add_mul,Nat.pow_succ,Nat.add_assoc,Nat.mul_comm 128 p.1,Nat.mul_assoc,Nat.mul_comm 128 (128 ^ i)]
theorem and127 (x:Nat) (hx:x < 256):bits BinOp.and IntKind.u8 (x:Int) 127=((x % 128:Nat):Int):=by
 have h:=u8_and_nat x 127 hx (by omega)
 rw [show ((127:Nat):Int)=127 from rfl] at h
 rw [h]
 have h3:∀ x < 256,x&&& 127=x % 128:=by decide+kernel
 rw [h3 x hx]
theorem wrapU (n:Nat) (h:n < 18446744073709551616):IntKind.u64.wrap (n:Int)=n:=by
 simp [IntKind.wrap,IntKind.bits,IntKind.signed];omega
theorem fit128 {u x i:Nat} (hx:x < 256) (hu:u < 128 ^ i) (h:i < 9∨(i=9∧x≤1)):u+x % 128 * 128 ^ i < 18446744073709551616:=by
 rcases h with h|⟨rfl,h⟩
 ·have h1:x % 128 * 128 ^ i≤127 * 128 ^ i:=Nat.mul_le_mul_right _ (by omega)
  have h2:128 ^ i≤128 ^ 8:=Nat.pow_le_pow_right (by omega) (by omega)
  have h3:(128:Nat) ^ 8=72057594037927936:=by decide
  omega
 ·have h3:(128:Nat) ^ 9=9223372036854775808:=by decide
  rw [h3] at hu ⊢
  omega
theorem or_val (u x i:Nat) (hx:x < 256) (hu:u < 128 ^ i) (h:i < 9∨(i=9∧x≤1)):
  bits BinOp.or IntKind.u64 (u:Int) (IntKind.u64.wrap (IntKind.u64.wrap (bits BinOp.and IntKind.u8 (x:Int) 127) * 2 ^ (7 * i)))=((u+x % 128 * 128 ^ i:Nat):Int):=by
 have hf:=fit128 hx hu h
 rw [and127 x hx,wrapU _ (by omega)]
 have hp:((2:Int) ^ (7 * i))=((128 ^ i:Nat):Int):=by
  rw [Int.pow_mul];simp
 rw [hp,← Int.natCast_mul,wrapU _ (by omega),u64_or_nat _ _ (by omega) (by omega)]
 congr 1
 have hp2:(128:Nat) ^ i=2 ^ (7 * i):=by rw [Nat.pow_mul]
 rw [hp2] at hu ⊢
 have:=Nat.two_pow_add_eq_or_of_lt hu (x % 128)
 rw [Nat.or_comm,Nat.mul_comm (x % 128),← this,Nat.add_comm]
theorem mod_lt128 {x:Nat} (h:x < 128):x % 128=x:=Nat.mod_eq_of_lt h
theorem mod_ge128 {x:Nat} (h:¬ x < 128) (h2:x < 256):x % 128=x - 128:=by omega
def NumRd (bs:List UInt8) (B:Nat) (w:World) (e:Ending) (w':World):Prop:=
 w.grownBy w' (some B)∧((∃ u r,decNum bs=some (u,r)∧e= .returned (.int .u64 (u:Nat))∧Rd w' B r)∨(decNum bs=none∧e= .panicked codeP))
set_option maxRecDepth 100000 in
set_option maxHeartbeats 3200000 in
theorem number_any (bs:List UInt8) (B:Nat) (w:World) (hr:Rd w B bs):Calls Tryz.prog 110 #[.pointer (some ⟨B,0,none⟩)] w (NumRd bs B w):=by
 have HR:=Lib.hid hr
 clear hr
 go_enter Tryz.func110,Tryz.ntmps110
 go_wp2
 go_loopw [2,3] (fun x y wr=>∃ (i u:Nat) (rs:List UInt8),i≤9∧y= .int .i64 i∧x= .int .u64 u∧u < 128 ^ i∧Rd wr B rs∧w.grownBy wr (some B)∧Hid (numK i u (decN (10 - i) i rs)=decNum bs)) (fun _ y _=>10 - (intOf y).toNat)
 case atStart=>exact ⟨0,0,bs,by omega,rfl,rfl,by simp,HR.out,grownBy_refl _ _,numK_zero _⟩
 case round=>
  obtain ⟨i,u,rs,hi,rfl,rfl,hu,hrd,hgr,hnum⟩:=hrel
  have HRD:=Lib.hid hrd
  have HU:=Lib.hid hu
  obtain ⟨f,hf⟩:∃ f,10 - i=f+1:=⟨9 - i,by omega⟩
  rw [hf] at hnum
  clear hrd hu
  cases rs with
  |nil=>
    go_wp2_with fail
    refine (take_rd_no HRD.out 1 (by simp)).mono ?_
    rintro e w1 ⟨rfl,rfl⟩
    exact ⟨rfl,hgr,.inr ⟨by rw [← hnum.out];rfl,rfl⟩⟩
  |cons c r=>
    go_wp2_with fail
    refine (take_rd HRD.out 1 (by simp)).mono ?_
    rintro e w1 ⟨a1,rfl,hby,_,hrd1,hgr1⟩
    obtain ⟨b1,off1,rfl,hc1⟩:=hby.resolve_left (by simp)
    have hc0:=hc1 0 (by simp)
    simp only [List.take_succ_cons,List.take_zero,List.getElem_cons_zero,Nat.add_zero,byteV] at hc0
    have hg2:=grownBy_trans1 hgr hgr1
    have HRD1:=Lib.hid hrd1
    clear hby hc1 hrd1 hgr1
    simp only [List.drop_succ_cons,List.drop_zero] at HRD1
    have hcb:=c.toNat_lt
    have hst:=fun h=>num_bad (f:=f) (i:=i) (c:=c) (r:=r) h
    have hen:=fun h h2=>num_end (f:=f) (i:=i) (u:=u) (c:=c) (r:=r) h h2
    have hgo:=fun h h2=>num_go (f:=f) (i:=i) (u:=u) (c:=c) (r:=r) h h2
    rw [hnum.out] at hen hgo
    generalize c.toNat=x at *
    have HST:=Lib.hid hst
    have HEN:=Lib.hid hen
    have HGO:=Lib.hid hgo
    clear hst hen hgo
    have HW:Hid (∀ p w,Calls Tryz.prog 93 #[p,.bool true] w fun e w'=>e= .returned (.tuple #[])∧w=w'):=want_yes
    have HX:Hid (x < 256):=hcb
    have HN:Hid (∀ p w,Calls Tryz.prog 93 #[p,.bool false] w fun e w'=>e= .panicked codeP∧w=w'):=want_no
    by_cases hcond:(i=0∨x≠0)∧(i < 9∨x≤1)
    ·have HCO:=Lib.hid hcond
     have HFI:=Lib.hid (show i < 9∨(i=9∧x≤1) by omega)
     by_cases h0:i=0
     ·have g1:((i:Int)==0)=true:=by simpa using h0
      have h9:(i:Int) < 9:=by omega
      clear hcond h0
      go_wp2_with fail
      with_reducible refine (HW.out _ _).mono ?_
      rintro e w2 ⟨rfl,rfl⟩
      go_wp2
      ·go_ret
       have hxi:(x:Int) < 128:=by assumption
       have hxl:x < 128:=by omega
       refine ⟨hg2,.inl ⟨_,_,HEN.out HCO.out hxl,?_,HRD1.out⟩⟩
       exact ret_int (by rw [or_val u x i HX.out HU.out HFI.out,mod_lt128 hxl])
      ·go_roundw
       case rel=>
        have hxi:(128:Int)≤x:=by assumption
        have hx2:¬ x < 128:=by omega
        refine ⟨i+1,u+(x - 128) * 128 ^ i,r,by omega,by go_num,?_,?_,HRD1.out,hg2,?_⟩
        ·rw [or_val u x i HX.out HU.out HFI.out,mod_ge128 hx2 HX.out]
        ·have h1:=HU.out
         have h2:(x - 128) * 128 ^ i≤127 * 128 ^ i:=Nat.mul_le_mul_right _ (by have:=HX.out;omega)
         rw [Nat.pow_succ];omega
        ·have e1:10 - (i+1)=f:=by omega
         rw [e1]
         exact (HGO.out HCO.out hx2).symm
       case measure=>simp [intOf];omega
     ·have g1:((i:Int)==0)=false:=by simp;omega
      have g2:((x:Int) != 0)=true:=by simp;omega
      by_cases h9:(i:Int) < 9
      ·clear hcond
       go_wp2_with fail
       with_reducible refine (HW.out _ _).mono ?_
       rintro e w2 ⟨rfl,rfl⟩
       go_wp2
       ·go_ret
        have hxi:(x:Int) < 128:=by assumption
        have hxl:x < 128:=by omega
        refine ⟨hg2,.inl ⟨_,_,HEN.out HCO.out hxl,?_,HRD1.out⟩⟩
        exact ret_int (by rw [or_val u x i HX.out HU.out HFI.out,mod_lt128 hxl])
       ·go_roundw
        case rel=>
         have hxi:(128:Int)≤x:=by assumption
         have hx2:¬ x < 128:=by omega
         refine ⟨i+1,u+(x - 128) * 128 ^ i,r,by omega,by go_num,?_,?_,HRD1.out,hg2,?_⟩
         ·rw [or_val u x i HX.out HU.out HFI.out,mod_ge128 hx2 HX.out]
         ·have h1:=HU.out
          have h2:(x - 128) * 128 ^ i≤127 * 128 ^ i:=Nat.mul_le_mul_right _ (by have:=HX.out;omega)
          rw [Nat.pow_succ];omega
         ·have e1:10 - (i+1)=f:=by omega
          rw [e1]
          exact (HGO.out HCO.out hx2).symm
        case measure=>simp [intOf];omega
      ·have g3:(x:Int)≤1:=by omega
       clear hcond
       go_wp2_with fail
       with_reducible refine (HW.out _ _).mono ?_
       rintro e w2 ⟨rfl,rfl⟩
       go_wp2
       ·go_ret
        have hxi:(x:Int) < 128:=by assumption
        have hxl:x < 128:=by omega
        refine ⟨hg2,.inl ⟨_,_,HEN.out HCO.out hxl,?_,HRD1.out⟩⟩
        exact ret_int (by rw [or_val u x i HX.out HU.out HFI.out,mod_lt128 hxl])
    ·have HCO:=Lib.hid hcond
     have g1:((i:Int)==0)=false:=by simp;omega
     by_cases h0:x=0
     ·have g2:((x:Int) != 0)=false:=by simp;omega
      clear hcond h0
      go_wp2_with fail
      with_reducible refine (HN.out _ _).mono ?_
      rintro e w2 ⟨rfl,rfl⟩
      exact ⟨rfl,hg2,.inr ⟨by rw [← hnum.out,HST.out HCO.out];rfl,rfl⟩⟩
     ·have g2:((x:Int) != 0)=true:=by simp;omega
      have h9:decide ((i:Int) < 9)=false:=by simp;omega
      have g3:decide ((x:Int)≤1)=false:=by simp;omega
      clear hcond h0
      go_wp2_with fail
      with_reducible refine (HN.out _ _).mono ?_
      rintro e w2 ⟨rfl,rfl⟩
      exact ⟨rfl,hg2,.inr ⟨by rw [← hnum.out,HST.out HCO.out];rfl,rfl⟩⟩

mutual
def RepF (F:Nat→Prop) (w:World):V→Value→Prop
 | .mk k n s l,c=>∃ a cap,c= .agg #[.int .i64 k,.int .i64 n,.string ⟨s.toArray⟩,.slice a l.length cap]∧i64R k∧i64R n∧s.length≤140737488351232∧l.length≤cap∧l.length≤140737488351232∧RepFL F w l a
def RepFL (F:Nat→Prop) (w:World):List V→Option Addr→Prop
 |[],_=>True
 |v :: l,a=>∃ b off c0 c1 c2 c3,F b∧a=some ⟨b,off,none⟩∧w.cell? ⟨b,off,none⟩=some c0∧w.cell? ⟨b,off+1,none⟩=some c1∧w.cell? ⟨b,off+2,none⟩=some c2∧w.cell? ⟨b,off+3,none⟩=some c3∧RepF F w v (.agg #[c0,c1,c2,c3])∧RepFL F w l (some ⟨b,off+4,none⟩)
end
mutual
theorem RepF.rep {F:Nat→Prop} {w:World}:∀ {v:V} {c:Value},RepF F w v c→RepV w v c
 | .mk k n s l,c,h=>by
   simp only [RepF] at h
   simp only [RepV]
   obtain ⟨a,cap,h1,h2,h3,h4,h5,h6,h7⟩:=h
   exact ⟨a,cap,h1,h2,h3,h4,h5,h6,RepFL.rep h7⟩
theorem RepFL.rep {F:Nat→Prop} {w:World}:∀ {l:List V} {a:Option Addr},RepFL F w l a→RepL w l a
 |[],_,_=>by simp only [RepL]
 |v :: l,a,h=>by
   simp only [RepFL] at h
   simp only [RepL]
   obtain ⟨b,off,c0,c1,c2,c3,_,e,h0,h1,h2,h3,hv,hl⟩:=h
   exact ⟨b,off,c0,c1,c2,c3,e,h0,h1,h2,h3,RepF.rep hv,RepFL.rep hl⟩
end
mutual
theorem RepF.keep {F F':Nat→Prop} {w w':World} (hF:∀ b,F b→F' b) (hk:∀ b,F b→w'.heap[b]? =w.heap[b]?):∀ {v:V} {c:Value},RepF F w v c→RepF F' w' v c
 | .mk k n s l,c,h=>by
   simp only [RepF] at h ⊢
   obtain ⟨a,cap,h1,h2,h3,h4,h5,h6,h7⟩:=h
   exact ⟨a,cap,h1,h2,h3,h4,h5,h6,RepFL.keep hF hk h7⟩
theorem RepFL.keep {F F':Nat→Prop} {w w':World} (hF:∀ b,F b→F' b) (hk:∀ b,F b→w'.heap[b]? =w.heap[b]?):∀ {l:List V} {a:Option Addr},RepFL F w l a→RepFL F' w' l a
 |[],_,_=>by simp only [RepFL]
 |v :: l,a,h=>by
   simp only [RepFL] at h ⊢
   obtain ⟨b,off,c0,c1,c2,c3,hf,e,h0,h1,h2,h3,hv,hl⟩:=h
   have hc:∀ o u,w.cell? ⟨b,o,none⟩=some u→w'.cell? ⟨b,o,none⟩=some u:=fun o u hu=>(World.cell?_of_block (w:=w) (w':=w') (a:=⟨b,o,none⟩) (hk b hf)).trans hu
   exact ⟨b,off,c0,c1,c2,c3,hF b hf,e,hc _ _ h0,hc _ _ h1,hc _ _ h2,hc _ _ h3,RepF.keep hF hk hv,RepFL.keep hF hk hl⟩
end
theorem RepF.form {F:Nat→Prop} {w:World} {v:V} {c:Value} (h:RepF F w v c):∃ k n s a len cap,c= .agg #[.int .i64 k,.int .i64 n,.string s,.slice a len cap]:=h.rep.form
def CellsL (F:Nat→Prop) (w:World):List V→List Value→Prop
 |[],xs=>xs=[]
 |v :: l,xs=>∃ c0 c1 c2 c3 ys,xs=c0 :: c1 :: c2 :: c3 :: ys∧RepF F w v (.agg #[c0,c1,c2,c3])∧CellsL F w l ys
theorem CellsL.keep {F F':Nat→Prop} {w w':World} (hF:∀ b,F b→F' b) (hk:∀ b,F b→w'.heap[b]? =w.heap[b]?):∀ {l:List V} {xs:List Value},CellsL F w l xs→CellsL F' w' l xs
 |[],_,h=>h
 |v :: l,xs,h=>by
   simp only [CellsL] at h ⊢
   obtain ⟨c0,c1,c2,c3,ys,e,h1,h2⟩:=h
   exact ⟨c0,c1,c2,c3,ys,e,h1.keep hF hk,h2.keep hF hk⟩
theorem CellsL.snoc {F:Nat→Prop} {w:World} {v:V} {c0 c1 c2 c3:Value} (hv:RepF F w v (.agg #[c0,c1,c2,c3])):∀ {l:List V} {xs:List Value},CellsL F w l xs→CellsL F w (l++[v]) (xs++[c0,c1,c2,c3])
 |[],xs,h=>by
   simp only [CellsL] at h
   subst h
   simp only [List.nil_append,CellsL]
   exact ⟨c0,c1,c2,c3,[],rfl,hv,rfl⟩
 |x :: l,xs,h=>by
   simp only [CellsL,List.cons_append] at h ⊢
   obtain ⟨d0,d1,d2,d3,ys,rfl,h1,h2⟩:=h
   exact ⟨d0,d1,d2,d3,ys++[c0,c1,c2,c3],rfl,h1,CellsL.snoc hv h2⟩
theorem CellsL.at {F G:Nat→Prop} {w:World} {g:Nat} (hG:G g) (hF:∀ b,F b→G b):∀ {l:List V} {xs:List Value} (off:Nat),CellsL F w l xs→(∀ j u,xs[j]? =some u→w.cell? ⟨g,off+j,none⟩=some u)→RepFL G w l (some ⟨g,off,none⟩)
 |[],_,_,_,_=>by simp only [RepFL]
 |v :: l,xs,off,h,hc=>by
   simp only [CellsL] at h
   simp only [RepFL]
   obtain ⟨c0,c1,c2,c3,ys,rfl,h1,h2⟩:=h
   refine ⟨g,off,c0,c1,c2,c3,hG,rfl,hc 0 c0 rfl,hc 1 c1 rfl,hc 2 c2 rfl,hc 3 c3 rfl,h1.keep hF (fun _ _=>rfl),CellsL.at hG hF (off+4) h2 fun j u hu=>?_⟩
   have:=hc (j+4) u (by simpa using hu)
   rw [show off+4+j=off+(j+4) by omega]
   exact this
theorem own_repFL {F G:Nat→Prop} {w:World} {base:Nat} {l:List V} {a:Option Addr} {cap:Nat} {xs:List Value} (ho:w.ownsRow base 79 4 (.slice a l.length cap) l.length xs) (hc:CellsL F w l xs)
  (hG:∀ g,base≤g→g < w.heap.size→G g) (hF:∀ b,F b→G b):RepFL G w l a∧l.length≤cap:=by
 have hlt:=ho.lt
 have hcells:=fun g hg=>ho.cells (g:=g) hg
 rcases ho.2 with ⟨h1,h2⟩|⟨g,cap',cur,h1,h2,h3,h4,h5⟩
 ·have:l=[]:=List.eq_nil_of_length_eq_zero h2
  subst this
  injection h1 with h1 h1' h1''
  subst h1''
  exact ⟨by simp only [RepFL],by simp⟩
 ·injection h1 with h1 h1' h1''
  subst h1 h1''
  refine ⟨CellsL.at (hG g h2 (hlt g rfl).2) hF 0 hc fun j u hu=>?_,h4⟩
  have:=hcells g rfl j u hu
  rw [Nat.zero_add]
  by_cases hj:j=0
  ·subst hj;simpa [Addr.add] using this
  ·simpa [Addr.add,hj] using this
theorem decNum_lt {bs:List UInt8} {u:Nat} {r:List UInt8} (h:decNum bs=some (u,r)):u < 18446744073709551616∧r.length≤bs.length:=by
 obtain ⟨h1,h2⟩:=num_decNum h
 exact ⟨h2,by rw [h1];simp⟩
def decLen (bs:List UInt8):Option (Nat×List UInt8):=match decNum bs with
 |none=>none
 |some (n,r)=>if n≤r.length then some (n,r) else none
def LenRd (bs:List UInt8) (B:Nat) (w:World) (e:Ending) (w':World):Prop:=
 w.grownBy w' (some B)∧((∃ n r,decLen bs=some (n,r)∧n≤r.length∧r.length≤bs.length∧e= .returned (.int .i64 (n:Nat))∧Rd w' B r)∨(decLen bs=none∧e= .panicked codeP))
set_option maxRecDepth 100000 in
set_option maxHeartbeats 3200000 in
theorem length_any (bs:List UInt8) (B:Nat) (w:World) (hr:Rd w B bs):Calls Tryz.prog 111 #[.pointer (some ⟨B,0,none⟩)] w (LenRd bs B w):=by
 have HW:Hid (∀ p w,Calls Tryz.prog 93 #[p,.bool true] w fun e w'=>e= .returned (.tuple #[])∧w=w'):=want_yes
 have HN:Hid (∀ p w,Calls Tryz.prog 93 #[p,.bool false] w fun e w'=>e= .panicked codeP∧w=w'):=want_no
 have HR:=Lib.hid hr
 clear hr
 go_enter Tryz.func111,Tryz.ntmps111
 go_wp2_with fail
 refine (number_any bs B w HR.out).mono ?_
 rintro e w1 ⟨hg1,⟨u,r,hd,rfl,hrd⟩|⟨hd,rfl⟩⟩
 ·obtain ⟨hu,hrb⟩:=decNum_lt hd
  obtain ⟨a,cap,hB,hl,hcap,hby,hlt⟩:=hrd
  have hc0:=cell_of hB
  have HRD:Hid (Rd w1 B r):=⟨a,cap,hB,hl,hcap,hby,hlt⟩
  have HD:=Lib.hid hd
  have HU:=Lib.hid hu
  clear hB hby hlt hd
  by_cases hle:u≤r.length
  ·have hle':(u:Int)≤r.length:=by omega
   have HDL:Hid (decLen bs=some (u,r)):=by unfold Hid decLen;rw [HD.out];simp [hle]
   go_wp2_with fail
   with_reducible refine (HW.out _ _).mono ?_
   rintro e w2 ⟨rfl,rfl⟩
   go_wp2
   go_ret
   exact ⟨hg1,.inl ⟨u,r,HDL.out,hle,hrb,rfl,HRD.out⟩⟩
  ·have hle':decide ((u:Int)≤r.length)=false:=by simp;omega
   have hle2:decide (u≤r.length)=false:=by simp;omega
   have HDL:Hid (decLen bs=none):=by unfold Hid decLen;rw [HD.out];simp [hle]
   go_wp2_with fail
   with_reducible refine (HN.out _ _).mono ?_
   rintro e w2 ⟨rfl,rfl⟩
   exact ⟨rfl,hg1,.inr ⟨HDL.out,rfl⟩⟩
 ·exact ⟨rfl,hg1,.inr ⟨by unfold decLen;rw [hd],rfl⟩⟩
end Go.Proofs.YthidfoohhhkobaaGreat.Cd
