import Derived.WalkKit
import Derived.WalkLawsBesides
import Derived.WalkSpells
import Derived.Lib.Hide
import Derived.Deep.QuietTactic
import Derived.BigQuiet
import Derived.Deep.LoopGhost
import Derived.Deep.DeepCutAuto
import Derived.Deep.DeepFit
import Derived.Deep.Light
import Derived.Maps.Range
import Derived.Maps.AppendAt
import Derived.StillTailTactics
import Derived.Lib.AppendStr
import Derived.Deep.AppendLies
import Derived.Deep.RegionHeld3
import Derived.Deep.DrawnRows
import Derived.StillTail
import Derived.Deep.RegionLawGrows
import Derived.ArgAppend
import Derived.Maps.Own
import Derived.Maps.OwnSet
import Derived.Maps.Views
import Derived.Deep.MidRow
import Derived.Laws.Tables
import Derived.TacticsIn
import Derived.OrdersIn
import Derived.Sort.LoopGhostIn
import Derived.RangeFuncIn
import Derived.RangeFuncRecord
import Derived.RangeFuncLeaves
import Derived.Laws.BytesArg
namespace Go.Proofs.YthidfoohhhkobaaGreat
set_option linter.unusedSimpArgs false
set_option linter.unusedVariables false
open Go.RowKit
section
variable {P:Program}
structure Grew (base:Nat) (e:TypeId) (size:Nat) (w:World) (v:Value) (v':Value) (n:Nat) (xs:List Value) (w':World):Prop where
 own:w'.ownsRow base e size v' n xs
 by_:w.grownBy w' v.ownBlock
 new:∀ g,v'.ownBlock=some g→w.heap.size≤g∨v.ownBlock=some g
theorem grownBy_refl (w:World) (row:Option Nat):w.grownBy w row:=⟨rfl,rfl,rfl,Nat.le_refl _,fun _ _ _=>rfl⟩
theorem Grew.refl {base:Nat} {e:TypeId} {size:Nat} {w:World} {v:Value} {n:Nat} {xs:List Value} (h:w.ownsRow base e size v n xs):Grew base e size w v v n xs w:=
 ⟨h,grownBy_refl _ _,fun _ h=> .inr h⟩
theorem Grew.trans {base:Nat} {e:TypeId} {size:Nat} {w w1 w2:World} {v v1 v2:Value} {n n2:Nat} {xs xs2:List Value}
  (h:Grew base e size w v v1 n xs w1) (h2:Grew base e size w1 v1 v2 n2 xs2 w2):Grew base e size w v v2 n2 xs2 w2:=
 ⟨h2.own,h.by_.andThen h2.by_ h.new,fun g hg=>by
  rcases h2.new g hg with h3|h3
  ·exact .inl (Nat.le_trans h.by_.size h3)
  ·exact h.new g h3⟩
theorem Grew.behind {base:Nat} {e:TypeId} {size:Nat} {w w0 w':World} {v v':Value} {n:Nat} {xs:List Value}
  (h:Grew base e size w0 v v' n xs w') (hb:Below w.heap.size w w0):Grew base e size w v v' n xs w':=
 ⟨h.own,(⟨hb.os,hb.tape,hb.output,hb.size,fun k hk _=>hb.block k hk⟩:w.grownBy w0 v.ownBlock).andThen h.by_ (fun j hj=> .inr hj),fun g hg=>by
  rcases h.new g hg with h3|h3
  ·exact .inl (Nat.le_trans hb.size h3)
  ·exact .inr h3⟩
theorem Grew.below {base:Nat} {e:TypeId} {size:Nat} {w w':World} {v v':Value} {n:Nat} {xs:List Value} {B:Nat}
  (h:Grew base e size w v v' n xs w') (hB:B≤w.heap.size) (hv:∀ g,v.ownBlock=some g→B≤g):Below B w w':=
 (Below.refl B w).grown h.by_ hB hv
theorem Grew.other {base:Nat} {e:TypeId} {size:Nat} {w w':World} {v v':Value} {n:Nat} {xs:List Value}
  (h:Grew base e size w v v' n xs w') {b:Nat} (hb:b < w.heap.size) (hne:v.ownBlock≠some b):w'.heap[b]? =w.heap[b]?:=h.by_.block b hb (fun e=>hne e.symm)
theorem Grew.cell {base:Nat} {e:TypeId} {size:Nat} {w w':World} {v v':Value} {n:Nat} {xs:List Value}
  (h:Grew base e size w v v' n xs w') {a:Addr} {u:Value} (hc:w.cell? a=some u) (hne:v.ownBlock≠some a.block):w'.cell? a=some u:=h.by_.cell hc (fun e=>hne e.symm)
theorem run_append_own2 (w:World) (base:Nat) (t ty e:TypeId) (i:TypeInfo) (z:Value) (size bytes:Nat) (ht:P.underlying t=some (.slice e)) (hi:P.info? e=some i) (hz:i.zero=some z)
  (hsize:i.size=size) (hby:i.bytes=bytes) (hzs:z.cells.size=size) (hsz:0 < size)
  (v:Value) (n:Nat) (xs:List Value) (hown:w.ownsRow base e size v n xs)
  (a:Addr) (m c:Nat) (news:List Value) (hl:news.length=m * size) (hnews:∀ j u,news[j]? =some u→w.cell? (a.add j)=some u) (h1:∀ u∈news,u.oneCell'=true)
  (h63:n+m≤maxLen) (hbytes:(n+m) * bytes≤140737488355328) (hbase:base≤w.heap.size):
  ∃ v' w',(Builtin.append_ #[t,t] ty #[v,.slice (some a) m c]).run P w= .ok v' w'∧Grew base e size w v v' (n+m) (xs++news) w':=by
 obtain ⟨v',w',hr,h2,h3,h4⟩:=run_append_own (P:=P) w base t ty e i z size bytes ht hi hz hsize hby hzs hsz v n xs hown a m c news hl hnews h1 h63 hbytes hbase
 refine ⟨v',w',hr,h2,h3,fun g hg=>?_⟩
 subst hsize
 subst hby
 have hsmall:n+m≤9223372036854775807:=by simp only [maxLen] at h63;omega
 rcases hown.2 with ⟨rfl,rfl⟩|⟨g0,cap,cur,rfl,hbg,hg0,hnc,hcm,hcs,htake⟩
 ·by_cases hm:m=0
  ·rw [h4.2 ⟨rfl,hm⟩] at hg;cases hg
  ·have hr2:=run_append_nil (P:=P) w t ty e i z ht hi hz a m c news hl hnews (by omega) (by omega) (by have hb:=hbytes;simp only [Nat.zero_add] at hb;omega)
   rw [hr2] at hr
   injection hr with e1 e2
   subst e1
   injection hg with hg;subst hg
   exact .inl (Nat.le_refl _)
 ·by_cases hroom:n+m≤cap
  ·have hfit:n * i.size+news.length≤cur.size:=by rw [hl,hcs,← Nat.add_mul];exact Nat.mul_le_mul_right _ hroom
   have hr2:=run_append_room (P:=P) w t ty e i ht hi g0 n cap cur hg0 a m c news hl hnews h1 hroom hfit
   rw [hr2] at hr
   injection hr with e1 e2
   subst e1
   exact .inr hg
  ·have hr2:=run_append_grow (P:=P) w t ty e i z ht hi hz ⟨g0,0,none⟩ n cap xs hown.1 (hown.cells (g:=g0) rfl) a m c news hl hnews (by omega) (by omega) (growslice_fits (by omega) hbytes)
   rw [hr2] at hr
   injection hr with e1 e2
   subst e1
   injection hg with hg;subst hg
   exact .inl (Nat.le_refl _)
def Source (P:Program) (t tx:TypeId) (size:Nat) (w:World) (x:Value) (m:Nat) (news:List Value):Prop:=
 (∃ ad c,x= .slice (some ad) m c∧tx=t∧news.length=m * size∧(∀ j u,news[j]? =some u→w.cell? (ad.add j)=some u)∧(∀ u∈news,u.oneCell'=true))∨
 ((∃ c,x= .slice none 0 c)∧m=0∧news=[]∧tx=t)∨
 (∃ s,x= .string s∧m=s.size∧news=Lib.strCells s∧P.underlying tx=some .string∧size=1)
theorem Source.cells {t tx:TypeId} {size:Nat} {w:World} (ad:Addr) (m c:Nat) (news:List Value) (ht:tx=t) (hl:news.length=m * size) (hnews:∀ j u,news[j]? =some u→w.cell? (ad.add j)=some u) (h1:∀ u∈news,u.oneCell'=true):
  Source P t tx size w (.slice (some ad) m c) m news:= .inl ⟨ad,c,rfl,ht,hl,hnews,h1⟩
theorem Source.nil {t tx:TypeId} {size:Nat} {w:World} {c:Nat} (ht:tx=t):Source P t tx size w (.slice none 0 c) 0 []:= .inr (.inl ⟨⟨c,rfl⟩,rfl,rfl,ht⟩)
theorem Source.text {t tx:TypeId} {size:Nat} {w:World} (s:ByteArray) (hu:P.underlying tx=some .string) (h1:size=1):Source P t tx size w (.string s) s.size (Lib.strCells s):= .inr (.inr ⟨s,rfl,rfl,rfl,hu,h1⟩)
theorem Source.own {t e:TypeId} {size:Nat} {w:World} {base:Nat} {v:Value} {n:Nat} {xs:List Value} (h:w.ownsRow base e size v n xs) (h1:∀ u∈xs,u.oneCell'=true):Source P t t size w v n xs:=by
 have hl:=h.1
 have hc:=fun (g:Nat) (hg:v.ownBlock=some g)=>h.cells hg
 rcases h.2 with ⟨rfl,rfl⟩|⟨g,cap,cur,rfl,_⟩
 ·have:xs=[]:=List.eq_nil_of_length_eq_zero (by simpa using hl)
  subst this
  exact Source.nil rfl
 ·exact Source.cells _ _ _ _ rfl hl (hc g rfl) h1
theorem Source.one {t e:TypeId} {w:World} (g:Nat) (u:Value) (hg:w.heap[g]? =some (.cells #[u] e (0,0))) (h1:u.oneCell'=true):Source P t t 1 w (.slice (some ⟨g,0,none⟩) 1 1) 1 [u]:=
 Source.cells _ _ _ _ rfl rfl (World.news_of_block (cs:= #[u]) (t:=e) (fr:=(0,0)) hg) (by simpa using h1)
theorem run_append_string2 (w:World) (base:Nat) (t u ty e:TypeId) (i:TypeInfo) (ht:P.underlying t=some (.slice e)) (hu:P.underlying u=some .string) (hi:P.info? e=some i) (hz:i.zero=some (.int .u8 0))
  (hsize:i.size=1) (hby:i.bytes=1) (v:Value) (n:Nat) (xs:List Value) (hown:w.ownsRow base e 1 v n xs) (s:ByteArray)
  (h63:n+s.size≤maxLen) (hbytes:n+s.size≤140737488355328) (hbase:base≤w.heap.size):
  ∃ v' w',(Builtin.append_ #[t,u] ty #[v,.string s]).run P w= .ok v' w'∧Grew base e 1 w v v' (n+s.size) (xs++Lib.strCells s) w':=by
 obtain ⟨v',w',hr,h2,h3,h4⟩:=Lib.run_append_own_string (P:=P) w base t u ty e i ht hu hi hz hsize hby v n xs hown s h63 hbytes hbase
 refine ⟨v',w',hr,h2,h3,fun g hg=>?_⟩
 have hsmall:n+s.size≤9223372036854775807:=by simp only [maxLen] at h63;omega
 have hxl:xs.length=n:=by simpa using hown.1
 rcases hown.2 with ⟨rfl,rfl⟩|⟨g0,cap,cur,rfl,hbg,hg0,hnc,hcm,hcs,htake⟩
 ·by_cases hm:s.size=0
  ·rw [h4.2 ⟨rfl,hm⟩] at hg;cases hg
  ·have hr2:=run_append_nil_string (P:=P) w t u ty e i (.int .u8 0) ht hu hi hz s (by omega) (by omega) (by rw [hby];omega)
   rw [hr2] at hr
   injection hr with e1 e2
   subst e1
   injection hg with hg;subst hg
   exact .inl (Nat.le_refl _)
 ·by_cases hroom:n+s.size≤cap
  ·have hcs':cur.size=cap:=by simpa using hcs
   have hr2:=Lib.run_append_room_string (P:=P) w t u ty e i ht hu hi hsize g0 n cap cur hg0 s hroom (by omega)
   rw [hr2] at hr
   injection hr with e1 e2
   subst e1
   exact .inr hg
  ·have hr2:=Lib.run_append_grow_string (P:=P) w t u ty e i (.int .u8 0) ht hu hi hz ⟨g0,0,none⟩ n cap xs (by rw [hsize];simpa using hxl) (hown.cells (g:=g0) rfl) s (by omega) (by omega) (by rw [hby];exact growslice_fits (by omega) (by omega))
   rw [hr2] at hr
   injection hr with e1 e2
   subst e1
   injection hg with hg;subst hg
   exact .inl (Nat.le_refl _)
structure Elem (P:Program) (t e:TypeId) (z:Value) (size bytes:Nat):Prop where
 ht:P.underlying t=some (.slice e)
 info:(P.info? e).map (fun i=>(i.zero,i.size,i.bytes))=some (some z,size,bytes)
 hzs:z.cells.size=size
 pos:0 < size
 byte:size=1→bytes=1→z= .int .u8 0
theorem run_append_any (w:World) (base:Nat) {t tx ty e:TypeId} {z:Value} {size bytes:Nat} (E:Elem P t e z size bytes) (v:Value) (n:Nat) (xs:List Value) (hown:w.ownsRow base e size v n xs)
  (x:Value) (m:Nat) (news:List Value) (hS:Source P t tx size w x m news) (hb1:tx=t∨bytes=1)
  (h63:n+m≤maxLen) (hbytes:(n+m) * bytes≤140737488355328) (hbase:base≤w.heap.size):
  ∃ v' w',(Builtin.append_ #[t,tx] ty #[v,x]).run P w= .ok v' w'∧Grew base e size w v v' (n+m) (xs++news) w':=by
 obtain ⟨i,hi,hz,hsz,hby⟩:=info_parts E.info
 rcases hS with ⟨ad,c,rfl,rfl,hl,hnews,h1⟩|⟨⟨c,rfl⟩,rfl,rfl,rfl⟩|⟨s,rfl,rfl,rfl,hu,h1⟩
 ·exact run_append_own2 w base _ ty e i z size bytes E.ht hi hz hsz hby E.hzs E.pos v n xs hown ad _ c _ hl hnews h1 h63 hbytes hbase
 ·have hrun:(Builtin.append_ #[tx,tx] ty #[v,.slice none 0 c]).run P w= .ok v w:=by
   rcases hown.2 with ⟨rfl,rfl⟩|⟨g,cap,cur,rfl,_,_,hnc,_⟩
   ·simp [Builtin.append_,run_underlying E.ht,sizeOf,typeInfo,hi,Builtin.lenOf,Builtin.firstCells]
   ·simp [Builtin.append_,run_underlying E.ht,sizeOf,typeInfo,hi,Builtin.lenOf,Builtin.firstCells,hnc,storeCells]
  refine ⟨v,w,hrun,?_⟩
  simpa using Grew.refl hown
 ·rcases hb1 with h|h
  ·rw [h,E.ht] at hu;cases hu
  ·subst h1 h
   have:=E.byte rfl rfl
   subst this
   exact run_append_string2 w base t tx ty e i E.ht hu hi hz hsz hby v n xs hown s h63 (by omega) hbase
section
variable {w:World} {a:Act} {ops:Array Oper} {rest:List Oper} {o:Oper} {Q:Exit→Act→World→Prop}
theorem wpList_app (hgd:o.guard=none) (s x:Operand) {t tx e:TypeId} {z:Value} {size bytes:Nat}
  (ho:o.op= .call { callee:= .builtin .append,args:= #[s,x],argTypes:= #[t,tx] }) (E:Elem P t e z size bytes)
  (base:Nat) (v:Value) (n:Nat) (xs:List Value) (hs:a.eval s=v) (hown:w.ownsRow base e size v n xs) (xv:Value) (m:Nat) (news:List Value) (hx:a.eval x=xv) (hS:Source P t tx size w xv m news) (hb1:tx=t∨bytes=1)
  (h63:n+m≤maxLen) (hbytes:(n+m) * bytes≤140737488355328) (hbase:base≤w.heap.size)
  (h:∀ v' w',Grew base e size w v v' (n+m) (xs++news) w'→wpList P ops Q rest (a.put o.dst v') w'):wpList P ops Q (o :: rest) a w:=by
 refine wpList_plain hgd fun _ hK=>?_
 obtain ⟨v',w',hr,h2⟩:=run_append_any (P:=P) w base (ty:=o.type) E v n xs hown xv m news hS hb1 h63 hbytes hbase
 unfold Oper.wp execOp
 simp only [ho,resolve,invoke,builtin,Sem.run_bind,Sem.run_pure,Result.andThen_ok,List.map_toArray,List.map_cons,List.map_nil,hs,hx,hr]
 exact hK _ _ (h v' w' h2)
theorem step_app {K:Act→World→Prop} {E':Prop} (hgd:o.guard=none) (s x:Operand) {t tx e:TypeId} {z:Value} {size bytes:Nat}
  (ho:o.op= .call { callee:= .builtin .append,args:= #[s,x],argTypes:= #[t,tx] }) (E:Elem P t e z size bytes)
  (base:Nat) (v:Value) (n:Nat) (xs:List Value) (hs:a.eval s=v) (hown:w.ownsRow base e size v n xs) (xv:Value) (m:Nat) (news:List Value) (hx:a.eval x=xv) (hS:Source P t tx size w xv m news) (hb1:tx=t∨bytes=1)
  (h63:n+m≤maxLen) (hbytes:(n+m) * bytes≤140737488355328) (hbase:base≤w.heap.size)
  (h:∀ v' w',Grew base e size w v v' (n+m) (xs++news) w'→K (a.put o.dst v') w'):
  if Region.wanted o (yielded ops a.tmps)=true then Oper.wp P o a w K Q else E':=by
 have hw:Region.wanted o (yielded ops a.tmps)=true:=by simp [Region.wanted,hgd]
 rw [if_pos hw]
 obtain ⟨v',w',hr,h2⟩:=run_append_any (P:=P) w base (ty:=o.type) E v n xs hown xv m news hS hb1 h63 hbytes hbase
 unfold Oper.wp execOp
 simp only [ho,resolve,invoke,builtin,Sem.run_bind,Sem.run_pure,Result.andThen_ok,List.map_toArray,List.map_cons,List.map_nil,hs,hx,hr]
 exact h v' w' h2
end
theorem wpList_append_own2 {w:World} {ops:Array Oper} {rest:List Oper} {o:Oper} {a:Act} {Q:Exit→Act→World→Prop} (hgd:o.guard=none) (s x:Operand) (t:TypeId)
  (ho:o.op= .call { callee:= .builtin .append,args:= #[s,x],argTypes:= #[t,t] })
  (base:Nat) (e:TypeId) (i:TypeInfo) (z:Value) (size bytes:Nat) (ht:P.underlying t=some (.slice e)) (hi:P.info? e=some i) (hz:i.zero=some z)
  (hsize:i.size=size) (hby:i.bytes=bytes) (hzs:z.cells.size=size) (hsz:0 < size)
  (v:Value) (n:Nat) (xs:List Value) (hs:a.eval s=v) (hown:w.ownsRow base e size v n xs)
  (ad:Addr) (m c:Nat) (news:List Value) (hx:a.eval x= .slice (some ad) m c) (hl:news.length=m * size) (hnews:∀ j u,news[j]? =some u→w.cell? (ad.add j)=some u) (h1:∀ u∈news,u.oneCell'=true)
  (h63:n+m≤maxLen) (hbytes:(n+m) * bytes≤140737488355328) (hbase:base≤w.heap.size)
  (h:∀ v' w',Grew base e size w v v' (n+m) (xs++news) w'→wpList P ops Q rest (a.put o.dst v') w'):wpList P ops Q (o :: rest) a w:=by
 refine wpList_plain hgd fun _ hK=>?_
 obtain ⟨v',w',hr,h2⟩:=run_append_own2 (P:=P) w base t o.type e i z size bytes ht hi hz hsize hby hzs hsz v n xs hown ad m c news hl hnews h1 h63 hbytes hbase
 unfold Oper.wp execOp
 simp only [ho,resolve,invoke,builtin,Sem.run_bind,Sem.run_pure,Result.andThen_ok,List.map_toArray,List.map_cons,List.map_nil,hs,hx,hr]
 exact hK _ _ (h v' w' h2)
end
theorem le_alloc {b:Nat} {w:World} (h:b≤w.heap.size) (o:Obj):b≤(w.alloc o).heap.size:=by simp;omega
theorem one_int (k:IntKind) (n:Int):∀ u∈[Value.int k n],u.oneCell'=true:=by simp [Value.oneCell']
theorem maxLen_le {n:Nat} (h:n≤140737488355328):n≤maxLen:=by unfold maxLen;omega

abbrev RepT (α:Type):=(Nat→Prop)→World→α→List Value→Prop
def Now (w:World):Nat→Prop:=fun b=>b < w.heap.size
structure Good {α:Type} (sz:Nat) (R:RepT α):Prop where
 keep:∀ {F F':Nat→Prop} {w w':World},(∀ b,F b→F' b)→(∀ b,F b→w'.heap[b]? =w.heap[b]?)→∀ {x:α} {cs:List Value},R F w x cs→R F' w' x cs
 len:∀ {F:Nat→Prop} {w:World} {x:α} {cs:List Value},R F w x cs→cs.length=sz
 one:∀ {F:Nat→Prop} {w:World} {x:α} {cs:List Value},R F w x cs→∀ u∈cs,u.oneCell'=true
def RI (k:IntKind):RepT Int:=fun _ _ n cs=>cs=[.int k n]∧(Lit.int k n).wf=true
def byteV (b:UInt8):Value:= .int .u8 b.toNat
def RRow {α:Type} (sz:Nat) (R:RepT α) (F:Nat→Prop) (w:World) (l:List α) (a:Option Addr):Prop:=
 ∀ i (h:i < l.length),∃ b off cs,a=some ⟨b,off,none⟩∧F b∧R F w l[i] cs∧∀ j u,cs[j]? =some u→w.cell? ⟨b,off+i * sz+j,none⟩=some u
def RS {α:Type} (sz:Nat) (R:RepT α):RepT (List α):=fun F w l cs=>∃ a cap,cs=[.slice a l.length cap]∧l.length≤cap∧l.length≤140737488351232∧RRow sz R F w l a
def RP {α β:Type} (R:RepT α) (S:RepT β):RepT (α×β):=fun F w p cs=>∃ c1 c2,cs=c1++c2∧R F w p.1 c1∧S F w p.2 c2
section
variable {α β:Type} {sz:Nat} {R:RepT α} {F F':Nat→Prop} {w w':World} {l:List α} {a:Option Addr}
theorem cell_kept {b o:Nat} {u:Value} (hk:w'.heap[b]? =w.heap[b]?) (h:w.cell? ⟨b,o,none⟩=some u):w'.cell? ⟨b,o,none⟩=some u:=
 (World.cell?_of_block (w:=w) (w':=w') (a:=⟨b,o,none⟩) hk).trans h
theorem RRow.nil (a:Option Addr):RRow sz R F w ([]:List α) a:=fun i h=>by cases h
def cutA (a:Option Addr) (cap n sz:Nat):Option Addr:=if cap=n then a else a.map (·.add (n * sz))
def CellsL (R:RepT α) (F:Nat→Prop) (w:World):List α→List Value→Prop
 |[],xs=>xs=[]
 |x :: l,xs=>∃ c ys,xs=c++ys∧R F w x c∧CellsL R F w l ys
theorem CellsL.keep (g:Good sz R) (hF:∀ b,F b→F' b) (hk:∀ b,F b→w'.heap[b]? =w.heap[b]?):∀ {l:List α} {xs:List Value},CellsL R F w l xs→CellsL R F' w' l xs
 |[],_,h=>h
 |_ :: _,_,⟨c,ys,e,h1,h2⟩=>⟨c,ys,e,g.keep hF hk h1,CellsL.keep g hF hk h2⟩
theorem own_form {base:Nat} {e:TypeId} {size:Nat} {v:Value} {n:Nat} {xs:List Value} (h:w.ownsRow base e size v n xs):∃ a cap,v= .slice a n cap∧n≤cap:=by
 rcases h.2 with ⟨rfl,rfl⟩|⟨g,cap,cur,rfl,_,_,h4,_⟩
 ·exact ⟨_,_,rfl,Nat.le_refl _⟩
 ·exact ⟨_,_,rfl,h4⟩
end
def Gives (v:Value) (w:World) (e:Ending) (w':World):Prop:=e= .returned v∧Below w.heap.size w w'
theorem below_cell {w w':World} (hb:Below w.heap.size w w') {a:Addr} {v:Value} (h:w.cell? a=some v):w'.cell? a=some v:=(hb.cell (World.block_lt_of_cell? _ _ h)).trans h
theorem ret_bool {a b:Bool} (h:a=b):Ending.returned (.bool a)= .returned (.bool b):=by rw [h]
theorem ret_int {k:IntKind} {a b:Int} (h:a=b):Ending.returned (.int k a)= .returned (.int k b):=by rw [h]
def i64R (n:Int):Prop:= -9223372036854775808≤n∧n≤9223372036854775807
theorem wf_i64 {n:Int} (h:(Lit.int .i64 n).wf=true):i64R n:=by
 have: -9223372036854775808≤n∧n≤9223372036854775807:=by simpa [Lit.wf,IntKind.min,IntKind.max,IntKind.signed,IntKind.bits] using h
 exact this
structure Later (w:World) where
 W:World
 by_:Below w.heap.size w W
instance laterInh (w:World):Inhabited (Later w):=⟨⟨w,Below.refl _ _⟩⟩
theorem below_drewN {B:Nat} {a w:World} (h:Below B a w) (n:Nat):Below B a (w.drewN n):=⟨h.os,h.tape,h.output,h.size,h.block⟩
def Box (w:World) (b:Nat) (cs:Array Value) (t:TypeId):Prop:=w.heap[b]? =some (.cells cs t (0,0))
section
variable {w w':World} {b:Nat} {cs:Array Value} {t:TypeId}
theorem Box.new (w:World) (cs:Array Value) (t:TypeId):Box (w.alloc (.cells cs t)) w.heap.size cs t:=heap_alloc_new w _
end

structure LaterG (Le:World→World→Prop) (w:World) where
 W:World
 by_:Le w W
section
variable {P:Program} {ops:Array Oper} {md:Region.Mode} {Le:World→World→Prop} {w0:World} {Ψ:Nat→Value→World→Prop} {hv:Nat→Option (List Nat)}
structure GInv (md:Region.Mode) (ops:Array Oper) (listed:Array Bool):Prop where
 size:listed.size=ops.size
 closed:∀ j oj,ops[j]? =some oj→listed.getD j false=true→∀ e∈oj.after,Region.binds md e=true→listed.getD e.on false=true
theorem GInv.set {i:Nat} {listed:Array Bool} (inv:GInv md ops listed) (hi:i∈Region.ready md ops listed):GInv md ops (listed.setIfInBounds i true):=by
 obtain ⟨_,oi,hoi,hall⟩:=mem_ready.1 hi
 refine ⟨by simp [inv.size],fun j oj hj hl e he hb=>?_⟩
 by_cases hij:i=j
 ·subst hij
  have:oj=oi:=Option.some.inj (hj.symm.trans hoi)
  subst this
  exact getD_set_true (hall e he hb)
 ·rw [getD_set_ne false hij] at hl
  exact getD_set_true (inv.closed j oj hj hl e he hb)
def reachB (md:Region.Mode) (ops:Array Oper):Nat→Nat→Nat→Bool
 |0,_,_=>false
 |F+1,t,i=>Region.waitsFor md ops t i||(List.range ops.size).any fun j=>Region.waitsFor md ops t j&&reachB md ops F j i
theorem reach_listed {listed:Array Bool} (inv:GInv md ops listed):∀ (F t i:Nat),reachB md ops F t i=true→(∀ o,ops[t]? =some o→∀ e∈o.after,Region.binds md e=true→listed.getD e.on false=true)→listed.getD i false=true
 |0,_,_,h,_=>by cases h
 |F+1,t,i,h,hall=>by
   simp only [reachB,Bool.or_eq_true] at h
   rcases h with h|h
   ·obtain ⟨o,ho,e,he,hb,hon⟩:=Region.waitsFor_spec h
    rw [← hon];exact hall o ho e he hb
   ·obtain ⟨j,_,hj⟩:=List.any_eq_true.1 h
    simp only [Bool.and_eq_true] at hj
    obtain ⟨o,ho,e,he,hb,hon⟩:=Region.waitsFor_spec hj.1
    have hl:listed.getD j false=true:=by rw [← hon];exact hall o ho e he hb
    exact reach_listed inv F j i hj.2 fun o' ho' e' he' hb'=>inv.closed j o' ho' hl e' he' hb'
def sinkT (md:Region.Mode) (ops:Array Oper) (n:Nat→Bool):Bool:=(List.range ops.size).all fun t=>n t||(List.range ops.size).all fun i=> !n i||reachB md ops ops.size t i
theorem sink_spec {n:Nat→Bool} (hs:sinkT md ops n=true) {listed:Array Bool} (inv:GInv md ops listed) {i j:Nat} (hi:i < ops.size) (hin:n i=true) (hun:listed.getD i true=false) (hj:j∈Region.ready md ops listed):n j=true:=by
 obtain ⟨_,oj,hoj,hall⟩:=mem_ready.1 hj
 have hjs:j < ops.size:=(Array.getElem?_eq_some_iff.1 hoj).1
 have h1:=List.all_eq_true.1 hs j (List.mem_range.2 hjs)
 simp only [Bool.or_eq_true] at h1
 rcases h1 with h1|h1
 ·exact h1
 ·have h2:=List.all_eq_true.1 h1 i (List.mem_range.2 hi)
  simp only [hin,Bool.not_true,Bool.false_or] at h2
  have h3:=reach_listed inv _ _ _ h2 (fun o ho e he hb=>by
   have:o=oj:=Option.some.inj (ho.symm.trans hoj)
   subst this
   exact hall e he hb)
  rw [getD_both hun] at h3
  cases h3
def seqT (md:Region.Mode) (ops:Array Oper):List Nat→Array Bool→Bool
 |[],listed=>(Region.ready md ops listed).isEmpty
 |t :: ts,listed=>decide (Region.ready md ops listed=[t])&&seqT md ops ts (listed.setIfInBounds t true)
def pickOps (l:List Oper):List Nat→List (Nat×Oper)
 |[]=>[]
 |i :: is=>match l[i]? with
   |some o=>(i,o) :: pickOps l is
   |none=>pickOps l is
section
variable {R:Act→(Nat→Value)→Prop} {o:Oper} {rest:List (Nat×Oper)} {k:Nat} {a:Act} {f:Nat→Value}
end
end
def LeB (w w':World):Prop:=Below w.heap.size w w'
theorem leB_refl (w:World):LeB w w:=Below.refl _ _
instance laterGInh (w:World):Inhabited (LaterG LeB w):=⟨⟨w,leB_refl w⟩⟩

section
variable {P:Program}
theorem run_append_zero (w:World) {t ty e:TypeId} {i:TypeInfo} (ht:P.underlying t=some (.slice e)) (hi:P.info? e=some i) (ao:Option Addr) (n cap:Nat) (xo:Option Addr) (c:Nat) (h:n≤cap) (hn:ao=none→n=0∧cap=0):
  (Builtin.append_ #[t,t] ty #[.slice ao n cap,.slice xo 0 c]).run P w= .ok (.slice ao n cap) w:=by
 cases ao with
 |none=>
   obtain ⟨rfl,rfl⟩:=hn rfl
   cases xo with
   |none=>simp [Builtin.append_,run_underlying ht,sizeOf,typeInfo,hi,Builtin.lenOf,Builtin.firstCells]
   |some ad=>
     have hf:=run_firstCells_some (P:=P) w i.size 0 ad 0 c [] (by simp) (fun j u h=>by simp at h)
     simp [Builtin.append_,run_underlying ht,sizeOf,typeInfo,hi,Builtin.lenOf,hf]
 |some b=>
   cases xo with
   |none=>simp [Builtin.append_,run_underlying ht,sizeOf,typeInfo,hi,Builtin.lenOf,Builtin.firstCells,h,storeCells]
   |some ad=>
     have hf:=run_firstCells_some (P:=P) w i.size 0 ad 0 c [] (by simp) (fun j u h=>by simp at h)
     simp [Builtin.append_,run_underlying ht,sizeOf,typeInfo,hi,Builtin.lenOf,hf,h,storeCells]
section
variable {w:World} {a:Act} {ops:Array Oper} {rest:List Oper} {o:Oper} {Q:Exit→Act→World→Prop}
end
variable {α:Type} {sz:Nat} {R:RepT α}
def NoneAt (e:TypeId) (B:Nat) (v:Value) (W:World):Prop:=∃ g,v= .slice (some ⟨g,0,none⟩) 0 0∧B≤g∧Box W g #[] e
theorem NoneAt.own {e:TypeId} {B size:Nat} {v:Value} {W:World} (h:NoneAt e B v W):W.ownsRow B e size v 0 []:=by
 obtain ⟨g,rfl,h1,hb⟩:=h
 exact ⟨by simp,.inr ⟨g,0,#[],rfl,h1,hb,Nat.le_refl _,by unfold maxLen;omega,by simp,by simp⟩⟩
end

section
variable {P:Program} {ops:Array Oper} {md:Region.Mode} {Le:World→World→Prop} {w0:World} {Ψ:Nat→Value→World→Prop} {hv:Nat→Option (List Nat)}
end

section
variable {P:Program} {ops:Array Oper} {md:Region.Mode} {Le:World→World→Prop} {w0:World} {I:(Nat→Bool)→(Nat→Value)→World→Prop} {hv:Nat→Option (List Nat)}
section
variable {R:Act→(Nat→Value)→Prop} {o:Oper} {rest:List (Nat×Oper)} {k:Nat} {a:Act} {f:Nat→Value}
end
end

abbrev PropD:=(Nat→Prop)→Value→World→Prop
section
variable {P:Program} {N0 kc:Nat} {F:Nat→Prop} {dep:List (Nat×PropD)} {al:List (Nat×Array Value×TypeId)}
variable {w0:World} {o:Oper} {a:Act} {f:Nat→Value}
end

section
variable {S S':List Nat} {a w w':World}
section
variable {α:Type} {sz:Nat} {R:RepT α} {G:Nat→Prop} {x:α} {cs:List Value}
end
end
end Go.Proofs.YthidfoohhhkobaaGreat

namespace Go.Proofs.YthidfoohhhkobaaGreat
set_option linter.unusedSimpArgs false
set_option linter.unusedVariables false
open Go.RowKit
open Go.Maps (Keyed)
open Classical in
section
variable {P:Program} {k:TypeId} {w w':World} {b n:Nat} {f:Value→Option Value}
end
end Go.Proofs.YthidfoohhhkobaaGreat

namespace Go.Proofs.YthidfoohhhkobaaGreat
set_option linter.unusedSimpArgs false
set_option linter.unusedVariables false
open Go.RowKit
structure Ft where
 c:Nat→Nat→Prop
 m:Nat→Prop
def Ft.le (F G:Ft):Prop:=(∀ b o,F.c b o→G.c b o)∧(∀ b,F.m b→G.m b)
theorem Ft.le_refl (F:Ft):F.le F:=⟨fun _ _ h=>h,fun _ h=>h⟩
theorem Ft.le_trans {F G H:Ft} (h:F.le G) (k:G.le H):F.le H:=⟨fun b o x=>k.1 b o (h.1 b o x),fun b x=>k.2 b (h.2 b x)⟩
def Kp (F:Ft) (w w':World):Prop:=(∀ b o u,F.c b o→w.cell? ⟨b,o,none⟩=some u→w'.cell? ⟨b,o,none⟩=some u)∧(∀ b,F.m b→w'.heap[b]? =w.heap[b]?)
theorem Kp.refl (F:Ft) (w:World):Kp F w w:=⟨fun _ _ _ _ h=>h,fun _ _=>rfl⟩
theorem Kp.trans {F:Ft} {a b c:World} (h:Kp F a b) (k:Kp F b c):Kp F a c:=⟨fun x o u hf hu=>k.1 x o u hf (h.1 x o u hf hu),fun x hf=>(k.2 x hf).trans (h.2 x hf)⟩
theorem Kp.le {F G:Ft} {a b:World} (hl:F.le G) (h:Kp G a b):Kp F a b:=⟨fun x o u hf hu=>h.1 x o u (hl.1 x o hf) hu,fun x hf=>h.2 x (hl.2 x hf)⟩
theorem Kp.of_blocks {F:Ft} {a b:World} (h1:∀ x o,F.c x o→b.heap[x]? =a.heap[x]?) (h2:∀ x,F.m x→b.heap[x]? =a.heap[x]?):Kp F a b:=
 ⟨fun x o u hf hu=>cell_kept (h1 x o hf) hu,h2⟩
inductive KQ where
 |i
 |p (n:Nat)
 |s
def aggC:List Value→Option (List Int)
 |[]=>some []
 | .int .i64 n :: l=>(aggC l).map (n :: ·)
 |_=>none
def keyC:KQ→Value→Option (List Int)
 | .i,.int .i64 n=>some [n]
 | .p _,.agg cs=>aggC cs.toList
 | .s,.string s=>some (s.data.toList.map fun b=>(b.toNat:Int))
 |_,_=>none
def allI:List Int→Prop
 |[]=>True
 |n :: l=>(-9223372036854775808≤n∧n≤9223372036854775807)∧allI l
def fitK:KQ→List Int→Prop
 | .s,c=>c.length≤9223372036854775807
 | .p n,c=>c.length=n∧allI c
 | .i,c=>allI c
def keysR (q:KQ):List MapEntry→List (List Int)→Prop
 |[],[]=>True
 |e :: ms,c :: cs=>(keyC q e.key=some c∧fitK q c)∧keysR q ms cs
 |_,_=>False
inductive D where
 |c (v:Value)
 |sl (sz:Nat) (d0:List D) (es:List (List D))
 |mp (q:KQ) (k:TypeId) (zv:Value) (z0:D) (cs:List (List Int)) (es:List D)
 |ag (ds:List D)
 |pt (ds:List D)
 |x (R:Ft→World→Value→Prop)
def StabX (R:Ft→World→Value→Prop):Prop:=∀ {F G:Ft} {w w':World} {v:Value},F.le G→Kp F w w'→R F w v→R G w' v
mutual
def RD (F:Ft) (w:World):D→Value→Prop
 | .c u,v=>v=u
 | .sl sz _ es,v=>∃ a cap,v= .slice a es.length cap∧es.length≤cap∧es.length≤140737488351232∧RR F w sz a es 0
 | .mp q _ zv z0 cs es,v=>RD F w z0 zv∧cs.length=es.length∧((v= .map none∧cs=[])∨∃ b ms clock,v= .map (some b)∧F.m b∧w.heap[b]? =some (.map ms clock)∧keysR q ms.toList cs∧cs.Nodup∧RDL F w es (ms.toList.map (·.val)))
 | .ag ds,v=>∃ us:List Value,v= .agg us.toArray∧RDL F w ds us∧∀ u∈us,u.oneCell'=true
 | .pt ds,v=>∃ b o us,v= .pointer (some ⟨b,o,none⟩)∧RDL F w ds us∧(∀ u∈us,u.oneCell'=true)∧∀ j u,us[j]? =some u→F.c b (o+j)∧w.cell? ⟨b,o+j,none⟩=some u
 | .x R,v=>v.oneCell'=true∧StabX R∧R F w v
def RDL (F:Ft) (w:World):List D→List Value→Prop
 |[],us=>us=[]
 |d :: ds,us=>∃ u r,us=u :: r∧RD F w d u∧RDL F w ds r
def RR (F:Ft) (w:World) (sz:Nat) (a:Option Addr):List (List D)→Nat→Prop
 |[],_=>True
 |e :: es,k=>(∃ b o us,a=some ⟨b,o,none⟩∧RDL F w e us∧us.length=sz∧(∀ u∈us,u.oneCell'=true)∧∀ j u,us[j]? =some u→F.c b (o+k+j)∧w.cell? ⟨b,o+k+j,none⟩=some u)∧RR F w sz a es (k+sz)
end
mutual
theorem RD.mono {F G:Ft} {w w':World} (hl:F.le G) (hk:Kp F w w'):∀ (d:D) (v:Value),RD F w d v→RD G w' d v
 | .c u,v,h=>by simp only [RD] at h ⊢;exact h
 | .sl sz _ es,v,h=>by
   simp only [RD] at h ⊢
   obtain ⟨a,cap,h1,h2,h3,h4⟩:=h
   exact ⟨a,cap,h1,h2,h3,RR.mono hl hk es sz a 0 h4⟩
 | .mp q _ zv z0 cs es,v,h=>by
   simp only [RD] at h ⊢
   refine ⟨RD.mono hl hk z0 zv h.1,h.2.1,h.2.2.imp id ?_⟩
   rintro ⟨b,ms,clock,h1,h2,h3,h4,h5,h6⟩
   exact ⟨b,ms,clock,h1,hl.2 _ h2,(hk.2 b h2).trans h3,h4,h5,RDL.mono hl hk es _ h6⟩
 | .ag ds,v,h=>by
   simp only [RD] at h ⊢
   obtain ⟨us,h1,h2,h3⟩:=h
   exact ⟨us,h1,RDL.mono hl hk ds us h2,h3⟩
 | .pt ds,v,h=>by
   simp only [RD] at h ⊢
   obtain ⟨b,o,us,h1,h2,h3,h4⟩:=h
   exact ⟨b,o,us,h1,RDL.mono hl hk ds us h2,h3,fun j u hj=>⟨hl.1 _ _ (h4 j u hj).1,hk.1 _ _ _ (h4 j u hj).1 (h4 j u hj).2⟩⟩
 | .x R,v,h=>by
   simp only [RD] at h ⊢
   exact ⟨h.1,h.2.1,h.2.1 hl hk h.2.2⟩
theorem RDL.mono {F G:Ft} {w w':World} (hl:F.le G) (hk:Kp F w w'):∀ (ds:List D) (us:List Value),RDL F w ds us→RDL G w' ds us
 |[],us,h=>by simp only [RDL] at h ⊢;exact h
 |d :: ds,us,h=>by
   simp only [RDL] at h ⊢
   obtain ⟨u,r,h1,h2,h3⟩:=h
   exact ⟨u,r,h1,RD.mono hl hk d u h2,RDL.mono hl hk ds r h3⟩
theorem RR.mono {F G:Ft} {w w':World} (hl:F.le G) (hk:Kp F w w'):∀ (es:List (List D)) (sz:Nat) (a:Option Addr) (k:Nat),RR F w sz a es k→RR G w' sz a es k
 |[],sz,a,k,h=>by simp only [RR]
 |e :: es,sz,a,k,h=>by
   simp only [RR] at h ⊢
   obtain ⟨⟨b,o,us,h1,h2,h3,h4,h5⟩,h6⟩:=h
   exact ⟨⟨b,o,us,h1,RDL.mono hl hk e us h2,h3,h4,fun j u hj=>⟨hl.1 _ _ (h5 j u hj).1,hk.1 _ _ _ (h5 j u hj).1 (h5 j u hj).2⟩⟩,RR.mono hl hk es sz a (k+sz) h6⟩
end
section
variable {F G:Ft} {w w':World} {sz:Nat} {a:Option Addr}
theorem RDL.len:∀ {ds:List D} {us:List Value},RDL F w ds us→us.length=ds.length
 |[],us,h=>by simp only [RDL] at h;simp [h]
 |d :: ds,us,h=>by
   simp only [RDL] at h
   obtain ⟨u,r,h1,_,h3⟩:=h
   simp [h1,RDL.len h3]
theorem RDL.append:∀ {ds es:List D} {us vs:List Value},RDL F w ds us→RDL F w es vs→RDL F w (ds++es) (us++vs)
 |[],es,us,vs,h,k=>by simp only [RDL] at h;subst h;exact k
 |d :: ds,es,us,vs,h,k=>by
   simp only [RDL] at h
   obtain ⟨u,r,rfl,h2,h3⟩:=h
   exact ⟨u,r++vs,rfl,h2,RDL.append h3 k⟩
theorem RDL.drop:∀ {ds:List D} {us:List Value} (n:Nat),RDL F w ds us→RDL F w (ds.drop n) (us.drop n)
 |ds,us,0,h=>by simpa using h
 |[],us,n+1,h=>by simp only [RDL] at h;subst h;simp [RDL]
 |d :: ds,us,n+1,h=>by
   simp only [RDL] at h
   obtain ⟨u,r,rfl,h2,h3⟩:=h
   simpa using RDL.drop n h3
theorem RDL.take:∀ {ds:List D} {us:List Value} (n:Nat),RDL F w ds us→RDL F w (ds.take n) (us.take n)
 |ds,us,0,h=>by simp [RDL]
 |[],us,n+1,h=>by simp only [RDL] at h;subst h;simp [RDL]
 |d :: ds,us,n+1,h=>by
   simp only [RDL] at h
   obtain ⟨u,r,rfl,h2,h3⟩:=h
   simp only [List.take_succ_cons,RDL]
   exact ⟨u,r.take n,rfl,h2,RDL.take n h3⟩
theorem RR.get:∀ {es:List (List D)} {k i:Nat} {e:List D},RR F w sz a es k→es[i]? =some e→
  ∃ b o us,a=some ⟨b,o,none⟩∧RDL F w e us∧us.length=sz∧(∀ u∈us,u.oneCell'=true)∧∀ j u,us[j]? =some u→F.c b (o+k+i * sz+j)∧w.cell? ⟨b,o+k+i * sz+j,none⟩=some u
 |[],k,i,e,h,he=>by simp at he
 |x :: es,k,0,e,h,he=>by
   simp only [RR] at h
   simp at he
   subst he
   simpa using h.1
 |x :: es,k,i+1,e,h,he=>by
   simp only [RR] at h
   obtain ⟨b,o,us,h1,h2,h3,h4,h5⟩:=RR.get (i:=i) h.2 (by simpa using he)
   refine ⟨b,o,us,h1,h2,h3,h4,fun j u hj=>?_⟩
   have:=h5 j u hj
   rw [show o+(k+sz)+i * sz+j=o+k+(i+1) * sz+j by rw [Nat.add_mul];omega] at this
   exact this
theorem RR.drop:∀ {es:List (List D)} {k:Nat} (n:Nat),RR F w sz a es k→RR F w sz a (es.drop n) (k+n * sz)
 |es,k,0,h=>by simpa using h
 |[],k,n+1,h=>by simp [RR]
 |x :: es,k,n+1,h=>by
   simp only [RR] at h
   have:=RR.drop n h.2
   rw [show k+sz+n * sz=k+(n+1) * sz by rw [Nat.add_mul];omega] at this
   simpa using this
theorem RR.take:∀ {es:List (List D)} {k:Nat} (n:Nat),RR F w sz a es k→RR F w sz a (es.take n) k
 |es,k,0,h=>by simp [RR]
 |[],k,n+1,h=>by simp [RR]
 |x :: es,k,n+1,h=>by
   simp only [RR] at h
   simp only [List.take_succ_cons,RR]
   exact ⟨h.1,RR.take n h.2⟩
theorem RR.shift {b o:Nat} (n:Nat):∀ {es:List (List D)} {k:Nat},RR F w sz (some ⟨b,o,none⟩) es (k+n)→RR F w sz (some ⟨b,o+n,none⟩) es k
 |[],k,h=>by simp [RR]
 |x :: es,k,h=>by
   simp only [RR] at h ⊢
   obtain ⟨⟨b',o',us,h1,h2,h3,h4,h5⟩,h6⟩:=h
   cases h1
   refine ⟨⟨b,o+n,us,rfl,h2,h3,h4,fun j u hj=>?_⟩,RR.shift n (k:=k+sz) (by rw [show k+sz+n=k+n+sz by omega];exact h6)⟩
   rw [show o+n+k+j=o+(k+n)+j by omega]
   exact h5 j u hj
theorem RR.of_cells {b o:Nat}:∀ {es:List (List D)} {us:List Value} {k:Nat},RDL F w es.flatten us→(∀ e∈es,e.length=sz)→(∀ u∈us,u.oneCell'=true)→(∀ j u,us[j]? =some u→F.c b (o+k+j)∧w.cell? ⟨b,o+k+j,none⟩=some u)→RR F w sz (some ⟨b,o,none⟩) es k
 |[],us,k,_,_,_,_=>by simp [RR]
 |e :: es,us,k,h,hz,h1,hc=>by
   simp only [List.flatten_cons] at h
   have hes:e.length=sz:=hz e (by simp)
   have t1:=h.take e.length
   have t2:=h.drop e.length
   simp only [List.take_left',List.drop_left'] at t1 t2
   have hl:=t1.len
   rw [RR]
   refine ⟨⟨b,o,us.take e.length,rfl,t1,by omega,fun u hu=>h1 u (List.mem_of_mem_take hu),fun j u hj=>hc j u ?_⟩,?_⟩
   ·rw [List.getElem?_take] at hj
    split at hj
    ·exact hj
    ·cases hj
   ·refine RR.of_cells t2 (fun x hx=>hz x (by simp [hx])) (fun u hu=>h1 u (List.mem_of_mem_drop hu)) (fun j u hj=>?_)
    rw [List.getElem?_drop] at hj
    have:=hc _ u hj
    rw [show o+(k+sz)+j=o+k+(e.length+j) by omega]
    exact this
theorem RR.cells {b o:Nat}:∀ {es:List (List D)} {k:Nat},RR F w sz (some ⟨b,o,none⟩) es k→∃ us,RDL F w es.flatten us∧us.length=es.length * sz∧(∀ u∈us,u.oneCell'=true)∧(∀ e∈es,e.length=sz)∧∀ j u,us[j]? =some u→F.c b (o+k+j)∧w.cell? ⟨b,o+k+j,none⟩=some u
 |[],k,_=>⟨[],by simp [RDL],by simp,by simp,by simp,by simp⟩
 |e :: es,k,h=>by
   simp only [RR] at h
   obtain ⟨⟨b',o',us,h1,h2,h3,h4,h5⟩,h6⟩:=h
   cases h1
   obtain ⟨vs,g1,g2,g3,g4,g5⟩:=RR.cells h6
   have hl:=h2.len
   refine ⟨us++vs,by simpa using h2.append g1,by rw [List.length_append,g2,List.length_cons,Nat.add_mul];omega,?_,?_,fun j u hj=>?_⟩
   ·intro u hu
    rcases List.mem_append.1 hu with hu|hu
    ·exact h4 u hu
    ·exact g3 u hu
   ·intro x hx
    rcases List.mem_cons.1 hx with rfl|hx
    ·omega
    ·exact g4 x hx
   ·by_cases hj':j < us.length
    ·rw [List.getElem?_append_left hj'] at hj
     exact h5 j u hj
    ·rw [List.getElem?_append_right (by omega)] at hj
     have:=g5 _ u hj
     rw [show o+(k+sz)+(j - us.length)=o+k+j by omega] at this
     exact this
theorem RR.none_nil:∀ {es:List (List D)} {k:Nat},RR F w sz none es k→es=[]
 |[],_,_=>rfl
 |e :: es,k,h=>by
   simp only [RR] at h
   obtain ⟨⟨b,o,us,h1,_⟩,_⟩:=h
   cases h1
theorem RD.nil_sl (F:Ft) (w:World) (sz:Nat) (d0:List D):RD F w (.sl sz d0 []) (.slice none 0 0):=by
 simp only [RD]
 exact ⟨none,0,rfl,Nat.le_refl _,by simp,by simp [RR]⟩
end

inductive V where
 |any
 |d (x:D)
 |ptr (n off:Nat)
 |elt (sz:Nat) (d0:List D) (es:List (List D)) (i off:Nat)
 |ow (n sz:Nat) (d0:List D) (es:List (List D))
 |mo (n:Nat)
 |oel (n sz i off:Nat)
 |osl (n off len:Nat)
 |fl (sz:Nat) (d0:List D) (es:List (List D))
 |mp (n:Nat)
 |yl (n:Nat)
 |agg (cs:List V)
 |tup (vs:List V)
 |fn (f:FuncId) (cap:List V)
 |fm (f:FuncId) (fst:List V)
 |cond (g:Bool) (v:V)
structure Env where
 η:Nat→Option Value
 F:Ft
 w:World
 dp:Nat→Prop
mutual
def RV (E:Env):V→Value→Prop
 | .any,_=>True
 | .d x,v=>RD E.F E.w x v
 | .ptr n off,v=>∃ b,E.η n=some (.pointer (some ⟨b,0,none⟩))∧v= .pointer (some ⟨b,off,none⟩)
 | .elt sz _ es i off,v=>∃ b o,v= .pointer (some ⟨b,o+i * sz+off,none⟩)∧RR E.F E.w sz (some ⟨b,o,none⟩) es 0
 | .ow n sz d0 es,v=>E.η n=some v∧RD E.F E.w (.sl sz d0 es) v
 | .mo n,v=>E.η n=some v∧∃ a l c,v= .slice a l c
 | .oel n sz i off,v=>∃ b l c,E.η n=some (.slice (some ⟨b,0,none⟩) l c)∧v= .pointer (some ⟨b,i * sz+off,none⟩)
 | .fl sz _ es,v=>∃ a,v= .slice a es.length es.length∧es.length≤140737488351232∧RR E.F E.w sz a es 0
 | .osl n off len,v=>∃ b cap,E.η n=some (.pointer (some ⟨b,0,none⟩))∧v= .slice (some ⟨b,off,none⟩) len cap
 | .mp n,v=>E.η n=some v∧∃ b,v= .map (some b)
 | .yl n,v=>E.η n=some v∧∃ b,v= .func (.yield b) #[] #[]
 | .agg cs,v=>∃ us:List Value,v= .agg us.toArray∧RVL E cs us∧∀ u∈us,u.oneCell'=true
 | .tup vs,v=>∃ us:List Value,v= .tuple us.toArray∧RVL E vs us
 | .fn f cap,v=>∃ us:List Value,v= .func (.func f) #[] us.toArray∧RVL E cap us
 | .fm f fst,v=>∃ us:List Value,v= .func (.func f) us.toArray #[]∧RVL E fst us
 | .cond g x,v=>(g=true→RV E x v)∧(g=false→v=undef)
def RVL (E:Env):List V→List Value→Prop
 |[],us=>us=[]
 |x :: xs,us=>∃ u r,us=u :: r∧RV E x u∧RVL E xs r
end
structure Ext (E E':Env):Prop where
 η:∀ n v,E.η n=some v→E'.η n=some v
 F:E.F.le E'.F
 k:Kp E.F E.w E'.w
theorem Ext.refl (E:Env):Ext E E:=⟨fun _ _ h=>h,Ft.le_refl _,Kp.refl _ _⟩
theorem Ext.trans {A B C:Env} (h:Ext A B) (k:Ext B C):Ext A C:=⟨fun n v x=>k.η n v (h.η n v x),Ft.le_trans h.F k.F,h.k.trans (k.k.le h.F)⟩
mutual
theorem RV.mono {E E':Env} (h:Ext E E'):∀ (x:V) (v:Value),RV E x v→RV E' x v
 | .any,v,k=>by simp only [RV]
 | .d x,v,k=>by simp only [RV] at k ⊢;exact RD.mono h.F h.k x v k
 | .ptr n off,v,k=>by simp only [RV] at k ⊢;obtain ⟨b,h1,h2⟩:=k;exact ⟨b,h.η _ _ h1,h2⟩
 | .elt sz _ es i off,v,k=>by simp only [RV] at k ⊢;obtain ⟨b,o,h1,h2⟩:=k;exact ⟨b,o,h1,RR.mono h.F h.k _ _ _ _ h2⟩
 | .ow n sz _ es,v,k=>by simp only [RV] at k ⊢;exact ⟨h.η _ _ k.1,RD.mono h.F h.k _ _ k.2⟩
 | .mo n,v,k=>by simp only [RV] at k ⊢;exact ⟨h.η _ _ k.1,k.2⟩
 | .oel n sz i off,v,k=>by simp only [RV] at k ⊢;obtain ⟨b,l,c,h1,h2⟩:=k;exact ⟨b,l,c,h.η _ _ h1,h2⟩
 | .fl sz _ es,v,k=>by simp only [RV] at k ⊢;obtain ⟨a,h1,h2,h3⟩:=k;exact ⟨a,h1,h2,RR.mono h.F h.k _ _ _ _ h3⟩
 | .osl n off len,v,k=>by simp only [RV] at k ⊢;obtain ⟨b,c,h1,h2⟩:=k;exact ⟨b,c,h.η _ _ h1,h2⟩
 | .mp n,v,k=>by simp only [RV] at k ⊢;exact ⟨h.η _ _ k.1,k.2⟩
 | .yl n,v,k=>by simp only [RV] at k ⊢;exact ⟨h.η _ _ k.1,k.2⟩
 | .agg cs,v,k=>by simp only [RV] at k ⊢;obtain ⟨us,h1,h2,h3⟩:=k;exact ⟨us,h1,RVL.mono h cs us h2,h3⟩
 | .tup cs,v,k=>by simp only [RV] at k ⊢;obtain ⟨us,h1,h2⟩:=k;exact ⟨us,h1,RVL.mono h cs us h2⟩
 | .fn f cs,v,k=>by simp only [RV] at k ⊢;obtain ⟨us,h1,h2⟩:=k;exact ⟨us,h1,RVL.mono h cs us h2⟩
 | .fm f cs,v,k=>by simp only [RV] at k ⊢;obtain ⟨us,h1,h2⟩:=k;exact ⟨us,h1,RVL.mono h cs us h2⟩
 | .cond g x,v,k=>by simp only [RV] at k ⊢;exact ⟨fun hg=>RV.mono h x v (k.1 hg),k.2⟩
theorem RVL.mono {E E':Env} (h:Ext E E'):∀ (xs:List V) (us:List Value),RVL E xs us→RVL E' xs us
 |[],us,k=>by simp only [RVL] at k ⊢;exact k
 |x :: xs,us,k=>by
   simp only [RVL] at k ⊢
   obtain ⟨u,r,h1,h2,h3⟩:=k
   exact ⟨u,r,h1,RV.mono h x u h2,RVL.mono h xs r h3⟩
end
section
variable {E E':Env}
theorem RVL.len:∀ {xs:List V} {us:List Value},RVL E xs us→us.length=xs.length
 |[],us,h=>by simp only [RVL] at h;simp [h]
 |x :: xs,us,h=>by
   simp only [RVL] at h
   obtain ⟨u,r,h1,_,h3⟩:=h
   simp [h1,RVL.len h3]
theorem RVL.get:∀ {xs:List V} {us:List Value} {j:Nat} {x:V},RVL E xs us→xs[j]? =some x→∃ u,us[j]? =some u∧RV E x u
 |[],us,j,x,h,hd=>by simp at hd
 |y :: xs,us,0,x,h,hd=>by
   simp only [RVL] at h
   obtain ⟨u,r,h1,h2,h3⟩:=h
   simp at hd
   subst hd
   exact ⟨u,by simp [h1],h2⟩
 |y :: xs,us,j+1,x,h,hd=>by
   simp only [RVL] at h
   obtain ⟨u,r,h1,h2,h3⟩:=h
   obtain ⟨v,h4,h5⟩:=RVL.get (j:=j) h3 (by simpa using hd)
   exact ⟨v,by simpa [h1] using h4,h5⟩
theorem RVL.append:∀ {xs ys:List V} {us vs:List Value},RVL E xs us→RVL E ys vs→RVL E (xs++ys) (us++vs)
 |[],ys,us,vs,h,k=>by simp only [RVL] at h;subst h;exact k
 |d :: ds,es,us,vs,h,k=>by
   simp only [RVL] at h
   obtain ⟨u,r,rfl,h2,h3⟩:=h
   exact ⟨u,r++vs,rfl,h2,RVL.append h3 k⟩
theorem RVL.drop:∀ {ds:List V} {us:List Value} (n:Nat),RVL E ds us→RVL E (ds.drop n) (us.drop n)
 |ds,us,0,h=>by simpa using h
 |[],us,n+1,h=>by simp only [RVL] at h;subst h;simp [RVL]
 |d :: ds,us,n+1,h=>by
   simp only [RVL] at h
   obtain ⟨u,r,rfl,h2,h3⟩:=h
   simpa using RVL.drop n h3
theorem RVL.take:∀ {ds:List V} {us:List Value} (n:Nat),RVL E ds us→RVL E (ds.take n) (us.take n)
 |ds,us,0,h=>by simp [RVL]
 |[],us,n+1,h=>by simp only [RVL] at h;subst h;simp [RVL]
 |d :: ds,us,n+1,h=>by
   simp only [RVL] at h
   obtain ⟨u,r,rfl,h2,h3⟩:=h
   simp only [List.take_succ_cons,RVL]
   exact ⟨u,r.take n,rfl,h2,RVL.take n h3⟩
def dV (ds:List D):List V:=ds.map .d
theorem RVL.of_data:∀ {ds:List D} {us:List Value},RDL E.F E.w ds us→RVL E (dV ds) us
 |[],us,h=>by simp only [RDL] at h;subst h;simp [RVL,dV]
 |d :: ds,us,h=>by
   simp only [RDL] at h
   obtain ⟨u,r,rfl,h2,h3⟩:=h
   simp only [dV,List.map_cons,RVL,RV]
   exact ⟨u,r,rfl,h2,RVL.of_data h3⟩
theorem RVL.to_data:∀ {ds:List D} {us:List Value},RVL E (dV ds) us→RDL E.F E.w ds us
 |[],us,h=>by simp only [dV,List.map_nil,RVL] at h;subst h;simp [RDL]
 |d :: ds,us,h=>by
   simp only [dV,List.map_cons,RVL,RV] at h
   obtain ⟨u,r,rfl,h2,h3⟩:=h
   simp only [RDL]
   exact ⟨u,r,rfl,h2,RVL.to_data h3⟩
end
structure LoopC where
 tms:Array Value
 ps:Array Tmp
 assign:Code
 body:Code
 l:Nat
inductive Blk where
 |cells (t:TypeId) (cs:List V)
 |tok (e:TypeId) (sz len:Nat)
 |row (e:TypeId) (sz:Nat) (d0:List V) (es:List (List V))
 |map (q:KQ) (k:TypeId) (zv:Value) (z0:V) (es:List (List Int×V))
 |loop (L:LoopC) (st:LoopState) (pe:Option Code)
 |raw (b:Nat) (o:Obj)
def hb:Value→Option Nat
 | .pointer (some a)=>some a.block
 | .slice (some a) _ _=>some a.block
 | .map (some b)=>some b
 | .func (.yield b) _ _=>some b
 |_=>none
structure Base where
 w0:World
 S0:Nat→Prop
 F0:Ft
 N:Nat
 g:Nat→Value
 r:Option Nat
 gd:Nat→Prop
 df:List Deferred
def okB (B:Base) (E:Env) (b:Nat) (p:Nat→Prop):Prop:=(B.w0.heap.size≤b∨B.S0 b)∧b < E.w.heap.size∧¬ E.F.m b∧∀ o,E.F.c b o→p o
def RMp (P:Program) (q:KQ) (k:TypeId) (E:Env):List MapEntry→List (List Int×V)→Prop
 |[],[]=>True
 |e :: ms,(c,x) :: es=>(keyC q e.key=some c∧fitK q c∧RV E x e.val)∧RMp P q k E ms es
 |_,_=>False
theorem RMp.mono {P:Program} {q:KQ} {k:TypeId} {E E':Env} (h:Ext E E'):∀ {ms:List MapEntry} {es:List (List Int×V)},RMp P q k E ms es→RMp P q k E' ms es
 |[],[],_=>trivial
 |_ :: _,(_,_) :: _,hm=>⟨⟨hm.1.1,hm.1.2.1,RV.mono h _ _ hm.1.2.2⟩,RMp.mono h hm.2⟩
 |[],_ :: _,hm=>by simp only [RMp] at hm
 |_ :: _,[],hm=>by simp only [RMp] at hm
def BornOk (ms:Array MapEntry) (clock:Nat):Prop:=(ms.toList.map (·.born)).Nodup∧∀ e∈ms.toList,e.born < clock
def RBk (P:Program) (B:Base) (E:Env) (n:Nat):Blk→Prop
 | .cells t cs=>∃ b us,E.η n=some (.pointer (some ⟨b,0,none⟩))∧E.w.heap[b]? =some (.cells us.toArray t (0,0))∧RVL E cs us∧(∀ u∈us,u.oneCell'=true)∧okB B E b (fun _=>False)
 | .tok e sz len=>∃ v us,E.η n=some v∧E.w.ownsRow 0 e sz v len us∧∀ b,hb v=some b→okB B E b (fun o=>o < len * sz)
 | .row e sz _ es=>∃ v us,E.η n=some v∧E.w.ownsRow 0 e sz v es.length us∧RVL E es.flatten us∧(∀ x∈es,x.length=sz)∧(∀ u∈us,u.oneCell'=true)∧es.length≤140737488351232∧∀ b,hb v=some b→okB B E b (fun _=>False)
 | .map q k zv z0 es=>∃ b ms clock,E.η n=some (.map (some b))∧E.w.heap[b]? =some (.map ms clock)∧RMp P q k E ms.toList es∧(es.map (·.1)).Nodup∧(RV E z0 zv∧BornOk ms clock)∧okB B E b (fun _=>False)
 | .loop L st pe=>∃ b rec,E.η n=some (.func (.yield b) #[] #[])∧E.w.heap[b]? =some (.loop rec)∧(rec.state=st∧rec.pending=pe∧rec.tmps=L.tms∧rec.params=L.ps∧rec.assign=L.assign∧rec.body=L.body∧b=L.l)∧okB B E b (fun _=>False)
 | .raw b o=>∃ v,E.η n=some v∧hb v=some b∧E.w.heap[b]? =some o∧o≠ .deferred (some [])∧okB B E b (fun _=>False)
def lkT:List (Nat×V)→Nat→V
 |[],_=> .any
 |(u,v) :: l,t=>if t=u then v else lkT l t
def lkB:List (Nat×Blk)→Nat→Option Blk
 |[],_=>none
 |(u,v) :: l,t=>if t=u then some v else lkB l t
structure GamS (P:Program) (B:Base) (σ:Nat→Option Blk) (fr:Nat→Prop) (E:Env):Prop where
 os:E.w.os=B.w0.os
 tape:E.w.tape=B.w0.tape
 output:E.w.output=B.w0.output
 size:B.w0.heap.size≤E.w.heap.size
 old:∀ b,b < B.w0.heap.size→¬ B.S0 b→E.w.heap[b]? =B.w0.heap[b]?
 F0:B.F0.le E.F
 Fc:∀ b o,E.F.c b o→(B.F0.c b o∨B.w0.heap.size≤b∨B.S0 b)∧b < E.w.heap.size
 Fm:∀ b,E.F.m b→(B.F0.m b∨B.w0.heap.size≤b∨B.S0 b)∧b < E.w.heap.size
 st:∀ n x,σ n=some x→RBk P B E n x
 dist:∀ n m x y b v u,n≠m→σ n=some x→σ m=some y→E.η n=some v→E.η m=some u→hb v=some b→hb u≠some b
 fresh:∀ n,fr n→E.η n=none
 dp:∀ D,E.dp D→E.w.heap[D]? =some (.deferred (some []))∧(B.w0.heap.size≤D∨B.S0 D)∧¬ E.F.m D∧∀ o,¬ E.F.c D o
def vOf (B:Base) (a:Act) (t:Nat):Value:=if t < B.N then a.tmps.getD t undef else B.g (t - B.N)
def mark (D:Nat):Deferred:={ target:= .collected D,args:= #[] }
structure GamT (B:Base) (tm:Nat→V) (E:Env) (a:Act):Prop where
 tm:∀ t,RV E (tm t) (vOf B a t)
 defers:∃ ds:List Nat,(a.defers=ds.map mark++B.df∧∀ D,mark D ∉ B.df)∧ds.Nodup∧(∀ D∈ds,E.dp D∧¬ B.gd D)∧∀ D,B.gd D→E.dp D
 size:a.tmps.size=B.N
structure St where
 tm:List (Nat×V)
 st:List (Nat×Blk)
 nx:Nat
def Gam (P:Program) (B:Base) (s:St) (E:Env) (a:Act):Prop:=GamS P B (lkB s.st) (fun n=>s.nx≤n) E∧GamT B (lkT s.tm) E a

inductive A where
 |one (x:D)
 |agg (xs:List D)
inductive Ret where
 |r1 (a:A)
 |rt (l:List A)
def RA (F:Ft) (w:World):A→Value→Prop
 | .one x,v=>RD F w x v
 | .agg xs,v=>∃ us:List Value,v= .agg us.toArray∧RDL F w xs us∧∀ u∈us,u.oneCell'=true
def RAL (F:Ft) (w:World):List A→List Value→Prop
 |[],us=>us=[]
 |x :: xs,us=>∃ u r,us=u :: r∧RA F w x u∧RAL F w xs r
def RRet (F:Ft) (w:World):Ret→Value→Prop
 | .r1 a,v=>RA F w a v
 | .rt l,v=>∃ us:List Value,v= .tuple us.toArray∧RAL F w l us
def Ft.lt (F:Ft) (w:World):Prop:=(∀ b o,F.c b o→b < w.heap.size)∧(∀ b,F.m b→b < w.heap.size)
structure FtNew (F F':Ft) (w w':World):Prop where
 le:F.le F'
 c:∀ b o,F'.c b o→F.c b o∨(w.heap.size≤b∧b < w'.heap.size)
 m:∀ b,F'.m b→F.m b∨(w.heap.size≤b∧b < w'.heap.size)
def Spec (P:Program) (f:FuncId) (args:List A) (r:Ret):Prop:=
 ∀ (F:Ft) (w:World) (us:List Value),F.lt w→RAL F w args us→
  Calls P f us.toArray w fun e w'=>∃ v F',e= .returned v∧Below w.heap.size w w'∧FtNew F F' w w'∧RRet F' w' r v
abbrev aI (n:Int):A:= .one (.c (.int .i64 n))
abbrev aB (b:Bool):A:= .one (.c (.bool b))
abbrev vI (n:Int):V:= .d (.c (.int .i64 n))
abbrev vB (b:Bool):V:= .d (.c (.bool b))
def ofA:A→V
 | .one x=> .d x
 | .agg xs=> .agg (dV xs)
def ofRet:Ret→V
 | .r1 a=>ofA a
 | .rt l=> .tup (l.map ofA)
def toD:V→Option D
 | .d x=>some x
 | .ow _ sz d0 es=>some (.sl sz d0 es)
 |_=>none
def toDs:List V→Option (List D)
 |[]=>some []
 |x :: xs=>match toD x,toDs xs with
   |some d,some ds=>some (d :: ds)
   |_,_=>none
def toA:V→Option A
 | .agg cs=>(toDs cs).map .agg
 |x=>(toD x).map .one
def toAs:List V→Option (List A)
 |[]=>some []
 |x :: xs=>match toA x,toAs xs with
   |some d,some ds=>some (d :: ds)
   |_,_=>none
theorem toDs_dV (xs:List D):toDs (dV xs)=some xs:=by
 induction xs with
 |nil=>rfl
 |cons x xs ih=>simp only [dV,List.map_cons,toDs,toD] at ih ⊢;rw [ih]
theorem toA_dV (xs:List D):toA (.agg (dV xs))=some (.agg xs):=by simp [toA,toDs_dV]
section
variable {E:Env} {F:Ft} {w:World}
theorem toD_ok {x:V} {d:D} {v:Value} (h:toD x=some d) (hv:RV E x v):RD E.F E.w d v:=by
 cases x<;>simp [toD] at h
 ·subst h;simpa only [RV] using hv
 ·subst h;simp only [RV] at hv;exact hv.2
theorem toDs_ok:∀ {xs:List V} {ds:List D} {us:List Value},toDs xs=some ds→RVL E xs us→RDL E.F E.w ds us
 |[],ds,us,h,hv=>by simp [toDs] at h;subst h;simp only [RVL] at hv;simp [RDL,hv]
 |x :: xs,ds,us,h,hv=>by
   simp only [toDs] at h
   split at h
   ·rename_i d ds' h1 h2
    cases h
    simp only [RVL] at hv
    obtain ⟨u,r,rfl,h3,h4⟩:=hv
    simp only [RDL]
    exact ⟨u,r,rfl,toD_ok h1 h3,toDs_ok h2 h4⟩
   ·cases h
theorem toA_ok {x:V} {a:A} {v:Value} (h:toA x=some a) (hv:RV E x v):RA E.F E.w a v:=by
 have one:∀ (d:D),toD x=some d→a= .one d→RA E.F E.w a v:=fun d hd ha=>by subst ha;exact toD_ok hd hv
 cases x<;>simp [toA] at h<;>try (obtain ⟨d,hd,ha⟩:=h;exact one d hd ha.symm)
 ·obtain ⟨ds,hd,rfl⟩:=h
  simp only [RV] at hv
  obtain ⟨us,h1,h2,h3⟩:=hv
  exact ⟨us,h1,toDs_ok hd h2,h3⟩
theorem toAs_ok:∀ {xs:List V} {ds:List A} {us:List Value},toAs xs=some ds→RVL E xs us→RAL E.F E.w ds us
 |[],ds,us,h,hv=>by simp [toAs] at h;subst h;simp only [RVL] at hv;simp [RAL,hv]
 |x :: xs,ds,us,h,hv=>by
   simp only [toAs] at h
   split at h
   ·rename_i d ds' h1 h2
    cases h
    simp only [RVL] at hv
    obtain ⟨u,r,rfl,h3,h4⟩:=hv
    simp only [RAL]
    exact ⟨u,r,rfl,toA_ok h1 h3,toAs_ok h2 h4⟩
   ·cases h
theorem ofA_ok {a:A} {v:Value} (h:RA E.F E.w a v):RV E (ofA a) v:=by
 cases a with
 |one x=>simp only [ofA,RV];exact h
 |agg xs=>
   obtain ⟨us,h1,h2,h3⟩:=h
   simp only [ofA,RV]
   exact ⟨us,h1,RVL.of_data h2,h3⟩
theorem ofAs_ok:∀ {l:List A} {us:List Value},RAL E.F E.w l us→RVL E (l.map ofA) us
 |[],us,h=>by simp only [RAL] at h;simp [RVL,h]
 |x :: xs,us,h=>by
   simp only [RAL] at h
   obtain ⟨u,r,rfl,h3,h4⟩:=h
   simp only [List.map_cons,RVL]
   exact ⟨u,r,rfl,ofA_ok h3,ofAs_ok h4⟩
theorem ofRet_ok {r:Ret} {v:Value} (h:RRet E.F E.w r v):RV E (ofRet r) v:=by
 cases r with
 |r1 a=>exact ofA_ok h
 |rt l=>
   obtain ⟨us,h1,h2⟩:=h
   simp only [ofRet,RV]
   exact ⟨us,h1,ofAs_ok h2⟩
end
def ofC:Value→V
 | .agg cs=> .agg (dV (cs.toList.map .c))
 |v=> .d (.c v)
def vcells:V→Option (List V)
 | .agg cs=>some cs
 | .d (.c u)=>if u.oneCell'=true then some [.d (.c u)] else none
 | .d (.sl sz d0 es)=>some [.d (.sl sz d0 es)]
 | .d (.ag ds)=>some (dV ds)
 | .d (.pt ds)=>some [.d (.pt ds)]
 | .d (.x R)=>some [.d (.x R)]
 | .d (.mp q k zv z0 cs es)=>some [.d (.mp q k zv z0 cs es)]
 | .ptr n off=>some [.ptr n off]
 | .elt sz d0 es i off=>some [.elt sz d0 es i off]
 | .ow n sz d0 es=>some [.ow n sz d0 es]
 | .mo n=>some [.mo n]
 | .oel n sz i off=>some [.oel n sz i off]
 | .mp n=>some [.mp n]
 | .fn f cap=>some [.fn f cap]
 | .fm f fst=>some [.fm f fst]
 | .yl n=>some [.yl n]
 |_=>none
theorem cells_one {v:Value} (h:v.oneCell'=true):v.cells= #[v]:=by cases v<;>simp_all [Value.oneCell',Value.cells]
theorem RVL.single {E:Env} {x:V} {v:Value} (h:RV E x v):RVL E [x] [v]:=by
 simp only [RVL];exact ⟨v,[],rfl,h,rfl⟩
theorem RD.one {F:Ft} {w:World} {sz:Nat} {d0:List D} {es:List (List D)} {v:Value} (h:RD F w (.sl sz d0 es) v):v.oneCell'=true:=by
 simp only [RD] at h
 obtain ⟨a,cap,rfl,_⟩:=h
 rfl
theorem vcells_ok {E:Env} {x:V} {cs:List V} {v:Value} (h:vcells x=some cs) (hv:RV E x v):∃ us:List Value,v.cells=us.toArray∧RVL E cs us∧∀ u∈us,u.oneCell'=true:=by
 have one:v.oneCell'=true→cs=[x]→∃ us:List Value,v.cells=us.toArray∧RVL E cs us∧∀ u∈us,u.oneCell'=true:=fun h1 h2=>by
  subst h2;exact ⟨[v],cells_one h1,RVL.single hv,by simpa using h1⟩
 cases x with
 |any=>simp [vcells] at h
 |d x=>
   cases x with
   |c u=>
     simp only [vcells] at h
     split at h
     ·rename_i h1
      simp only [RV,RD] at hv
      subst hv
      exact one h1 (by injection h with h;exact h.symm)
     ·cases h
   |sl sz d0 es=>simp only [RV] at hv;exact one (RD.one hv) (by simpa [vcells] using h.symm)
   |mp q k zv z0 ks es=>
     simp only [RV,RD] at hv
     exact one (by rcases hv.2.2 with h1|⟨b,ms,clock,h1,_⟩;rw [h1.1];rfl;rw [h1];rfl) (by simpa [vcells] using h.symm)
   |ag ds=>
     simp only [RV,RD] at hv
     obtain ⟨us,rfl,h2,h3⟩:=hv
     simp [vcells] at h
     subst h
     exact ⟨us,rfl,RVL.of_data h2,h3⟩
   |pt ds=>
     simp only [RV,RD] at hv
     obtain ⟨b,o,us,rfl,_⟩:=hv
     exact one rfl (by simpa [vcells] using h.symm)
   |x R=>
     simp only [RV,RD] at hv
     exact one hv.1 (by simpa [vcells] using h.symm)
 |ptr n off=>simp only [RV] at hv;obtain ⟨b,_,rfl⟩:=hv;exact one rfl (by simpa [vcells] using h.symm)
 |elt sz d0 es i off=>simp only [RV] at hv;obtain ⟨b,o,rfl,_⟩:=hv;exact one rfl (by simpa [vcells] using h.symm)
 |ow n sz d0 es=>simp only [RV] at hv;exact one (RD.one hv.2) (by simpa [vcells] using h.symm)
 |mo n=>simp only [RV] at hv;obtain ⟨_,a,l,c,rfl⟩:=hv;exact one rfl (by simpa [vcells] using h.symm)
 |oel n sz i off=>simp only [RV] at hv;obtain ⟨b,l,c,_,rfl⟩:=hv;exact one rfl (by simpa [vcells] using h.symm)
 |mp n=>simp only [RV] at hv;obtain ⟨_,b,rfl⟩:=hv;exact one rfl (by simpa [vcells] using h.symm)
 |agg cs'=>
   simp only [RV] at hv
   obtain ⟨us,rfl,h2,h3⟩:=hv
   simp [vcells] at h
   subst h
   exact ⟨us,rfl,h2,h3⟩
 |yl n=>simp only [RV] at hv;obtain ⟨_,b,rfl⟩:=hv;exact one rfl (by simpa [vcells] using h.symm)
 |tup vs=>simp [vcells] at h
 |osl n off len=>simp [vcells] at h
 |fl sz d0 es=>simp [vcells] at h
 |fn f cap=>simp only [RV] at hv;obtain ⟨us,rfl,_⟩:=hv;exact one rfl (by simpa [vcells] using h.symm)
 |fm f fst=>simp only [RV] at hv;obtain ⟨us,rfl,_⟩:=hv;exact one rfl (by simpa [vcells] using h.symm)
 |cond g x=>simp [vcells] at h
inductive TyK where
 |int (k:IntKind)
 |bool
 |str
 |slice (e:Nat)
 |struct (fs:List (Nat×Nat))
 |arr (n e:Nat)
 |map (k e:Nat)
 |oth
structure TyI where
 kd:TyK
 sz:Nat
 z:Value
 by_:Nat
def TyK.agg:TyK→Bool
 | .struct _| .arr _ _=>true
 |_=>false
def kdOk (P:Program) (t:Nat):TyK→Prop
 | .int k=>P.underlying t=some (.int k)
 | .bool=>P.underlying t=some .bool
 | .str=>P.underlying t=some .string
 | .slice e=>P.underlying t=some (.slice e)
 | .struct fs=>(match P.underlying t with|some (.struct fields)=>some (fields.toList.map fun f=>(f.offset,(P.info? f.type).map (·.size)))|_=>none)=some (fs.map fun x=>(x.1,some x.2))
 | .arr n e=>P.underlying t=some (.array n e)
 | .map k e=>P.underlying t=some (.map k e)
 | .oth=>(P.underlying t).map (·.isRow)=some false
def TyOk (P:Program) (t:Nat) (i:TyI):Prop:=(P.info? t).map (fun j=>(j.size,j.zero,j.bytes))=some (i.sz,some i.z,i.by_)∧kdOk P t i.kd
abbrev Tab:=List (Nat×TyI)
def TabOk (P:Program):Tab→Prop
 |[]=>True
 |(t,i) :: l=>TyOk P t i∧TabOk P l
def ty:Tab→Nat→Option TyI
 |[],_=>none
 |(u,i) :: l,t=>if t=u then some i else ty l t
theorem ty_ok {P:Program}:∀ {T:Tab} {t:Nat} {i:TyI},TabOk P T→ty T t=some i→TyOk P t i
 |[],t,i,_,h=>by cases h
 |(u,j) :: l,t,i,hT,h=>by
   simp only [ty] at h
   split at h
   ·rename_i e;cases h;subst e;exact hT.1
   ·exact ty_ok hT.2 h
section
variable {P:Program} {t:Nat} {i:TyI}
theorem TyOk.row (h:TyOk P t i):∃ d,P.underlying t=some d∧d.isRow=i.kd.agg:=by
 obtain ⟨_,h⟩:=h
 cases hk:i.kd<;>rw [hk] at h<;>simp only [kdOk] at h
 case struct fs=>
  split at h
  ·rename_i fields hu;exact ⟨_,hu,rfl⟩
  ·cases h
 case oth=>
  cases hu:P.underlying t with
  |none=>rw [hu] at h;cases h
  |some d=>rw [hu] at h;exact ⟨d,rfl,by simpa [TyK.agg] using h⟩
 all_goals exact ⟨_,h,rfl⟩
theorem TyOk.size (h:TyOk P t i):(P.info? t).map (·.size)=some i.sz:=by
 have:=h.1
 cases hi:P.info? t with
 |none=>rw [hi] at this;cases this
 |some j=>rw [hi] at this;simp at this ⊢;exact this.1
theorem TyOk.sizeOf (h:TyOk P t i) (w:World):(sizeOf t).run P w= .ok i.sz w:=by
 have:=h.size
 cases hi:P.info? t with
 |none=>rw [hi] at this;cases this
 |some j=>rw [hi] at this;simp at this;simp [Go.sizeOf,typeInfo,hi,this]
theorem TyOk.zero (h:TyOk P t i) (w:World):(zeroValue t).run P w= .ok i.z w:=by
 have:=h.1
 cases hi:P.info? t with
 |none=>rw [hi] at this;cases this
 |some j=>rw [hi] at this;simp at this;simp [zeroValue,typeInfo,hi,this]
theorem TyOk.isAgg (h:TyOk P t i) (w:World):(isAgg t).run P w= .ok i.kd.agg w:=by
 obtain ⟨d,h1,h2⟩:=h.row
 unfold Go.isAgg
 rw [Sem.run_bind,run_underlying h1 w]
 cases d<;>simp_all
end

def Upon (P:Program) (R:Value→World→Prop):Result Next→Prop
 | .ok (.value v) w'=>R v w'
 | .ok .skip w'=>R undef w'
 | .ok (.enter f args) w'=>Calls P f args w' fun e w''=>∃ v,e= .returned v∧R v w''
 |_=>False
theorem Upon.mono {P:Program} {R R':Value→World→Prop} {r:Result Next} (h:Upon P R r) (hr:∀ v w,R v w→R' v w):Upon P R' r:=by
 cases r with
 |ok n w=>
   cases n<;>simp only [Upon] at h ⊢
   ·exact hr _ _ h
   ·exact hr _ _ h
   ·exact h.mono fun e w'' ⟨v,h1,h2⟩=>⟨v,h1,hr _ _ h2⟩
 |halt x w=>simp only [Upon] at h
def fen (r:Option Nat):Fence:={ Fence.wide with round:=r }
theorem Upon.wpIn {P:Program} {r:Option Nat} {o:Oper} {a:Act} {w:World} {K:Act→World→Prop} {Q:Exit→Act→World→Prop} {R:Value→World→Prop} (h:Upon P R ((execOp a.eval o).run P w)) (hk:∀ v w',R v w'→K (a.put o.dst v) w'):o.wpIn (fen r) 0 P a w K Q:=by
 refine ⟨fun _ _=>trivial,?_⟩
 have he:(Oper.semAt (fen r).round a.eval o).run P w=(execOp a.eval o).run P w:=by
  show (Oper.semAt r a.eval o).run P w=_
  cases r with
  |none=>rfl
  |some l=>
    unfold Oper.semAt
    cases ho:o.op<;>first |rfl|skip
    rename_i c
    exfalso
    simp only [execOp,ho] at h
    generalize hr:(resolve a.eval c o.type).run P w=r1 at h
    simp only [Sem.run_bind,hr] at h
    cases r1<;>simp [Upon,Result.andThen] at h
 rw [he]
 generalize (execOp a.eval o).run P w=r at h
 cases r with
 |ok n w'=>
   cases n<;>simp only [Upon] at h<;>simp only [Oper.uponIn]
   ·exact hk _ _ h
   ·exact hk _ _ h
   ·refine ⟨fun h=>(by cases h),?_⟩
    show CallsIn Fence.wide 0 P _ _ _ _
    refine callsIn_wide.2 (h.mono ?_)
    rintro e w'' ⟨v,h1,h2⟩
    subst h1
    exact hk _ _ h2
 |halt x w=>simp only [Upon] at h
structure HStep (E E':Env) (nm:Nat):Prop where
 by_:Below E.w.heap.size E.w E'.w
 η:∀ n,n≠nm→E'.η n=E.η n
 F:FtNew E.F E'.F E.w E'.w
 dp:E'.dp=E.dp
theorem HStep.refl (E:Env) (nm:Nat):HStep E E nm:=⟨Below.refl _ _,fun _ _=>rfl,⟨Ft.le_refl _,fun _ _ h=> .inl h,fun _ h=> .inl h⟩,rfl⟩
theorem HStep.ext {E E':Env} {nm:Nat} (h:HStep E E' nm) (hl:E.F.lt E.w) (hn:E.η nm=none):Ext E E':=
 ⟨fun n v hv=>by rw [h.η n (fun e=>by subst e;rw [hn] at hv;cases hv)];exact hv,h.F.le,.of_blocks (fun b o hb=>h.by_.block b (hl.1 b o hb)) (fun b hb=>h.by_.block b (hl.2 b hb))⟩
def NewB (P:Program) (B:Base) (E E':Env) (nm:Nat):Option Blk→Prop
 |none=>E'.η nm=E.η nm
 |some x=>∃ v,E'.η nm=some v∧(∀ b,hb v=some b→E.w.heap.size≤b)∧RBk P B E' nm x
def HD (P:Program) (o:Oper) (e:Operand→V) (st:Nat→Option Blk) (nm:Nat) (v:V) (x:Option Blk):Prop:=
 ∀ (B:Base) (E:Env) (ρ:Operand→Value),(∀ y∈o.op.operands,RV E (e y) (ρ y))→(∀ f,ρ (.func f)= .func (.func f) #[] #[])→(∀ n b,st n=some b→RBk P B E n b)→E.F.lt E.w→B.w0.heap.size≤E.w.heap.size→E.η nm=none→
  Upon P (fun u w'=>∃ E',E'.w=w'∧HStep E E' nm∧RV E' v u∧NewB P B E E' nm x) ((execOp ρ o).run P E.w)
abbrev HK:=V→Option Blk→Prop
def ldK (G:Prop) (i:TyI) (cs:List V) (K:HK):Prop:=match i.kd.agg with
 |true=>(G→i.sz≤cs.length)∧K (.agg (cs.take i.sz)) none
 |false=>match cs.head? with
   |some c=>K c none
   |none=>False
def iop (G:Prop) (op:BinOp) (k:IntKind) (x y:Int) (K:V→Prop):Prop:=match op with
 | .add=>K (.d (.c (.int k (k.wrap (x+y)))))
 | .sub=>K (.d (.c (.int k (k.wrap (x - y)))))
 | .mul=>K (.d (.c (.int k (k.wrap (x * y)))))
 | .quo=>(G→y≠0)∧K (.d (.c (.int k (k.wrap (x.tdiv y)))))
 | .rem=>(G→y≠0)∧K (.d (.c (.int k (x.tmod y))))
 | .eql=>K (vB (x==y))
 | .neq=>K (vB (x != y))
 | .lss=>K (vB (decide (x < y)))
 | .leq=>K (vB (decide (x≤y)))
 | .gtr=>K (vB (decide (x > y)))
 | .geq=>K (vB (decide (x≥y)))
 | .and=>K (.d (.c (.int k (k.wrap ((BitVec.ofInt k.bits x&&& BitVec.ofInt k.bits y).toNat:Nat)))))
 | .or=>K (.d (.c (.int k (k.wrap ((BitVec.ofInt k.bits x|||BitVec.ofInt k.bits y).toNat:Nat)))))
 |_=>False
def iop2 (G:Prop) (op:BinOp) (k k':IntKind) (x y:Int) (K:V→Prop):Prop:=match op with
 | .shl=>(G→0≤y)∧K (.d (.c (.int k (k.wrap (x * 2 ^ min y.toNat k.bits)))))
 | .shr=>(G→0≤y)∧K (.d (.c (.int k (x.fdiv (2 ^ min y.toNat k.bits)))))
 |op=>k=k'∧iop G op k x y K
def slOf:V→Option (Nat×List D×List (List D))
 | .d (.sl sz d0 es)=>some (sz,d0,es)
 | .ow _ sz d0 es=>some (sz,d0,es)
 |_=>none
def splice (cells:List V) (off:Nat) (cs:List V):List V:=cells.take off++cs++cells.drop (off+cs.length)
def fillV (place:Nat→Option (Nat×Nat)) (cells:List V):List (Nat×V)→Option (List V)
 |[]=>some cells
 |(i,x) :: rest=>match place i,vcells x with
   |some (off,size),some cs=>if cs.length=size∧off+size≤cells.length then fillV place (splice cells off cs) rest else none
   |_,_=>none
def zcells (v:Value):List V:=v.cells.toList.map fun c=> .d (.c c)
def allOne (v:Value):Bool:=v.cells.toList.all fun u=>u.oneCell'
def ixK (G:Prop) (st:Nat→Option Blk) (isz:Nat) (K:HK):V→V→Prop
 | .mo n,.d (.c (.int _ j))=>match st n with
   |some (.row _ sz _ es)=>sz=isz∧(G→0≤j∧j < es.length)∧K (.oel n sz j.toNat 0) none
   |_=>False
 | .d (.sl sz d0 es),.d (.c (.int _ j))=>sz=isz∧(G→0≤j∧j < es.length)∧K (.elt sz d0 es j.toNat 0) none
 | .ow _ sz d0 es,.d (.c (.int _ j))=>sz=isz∧(G→0≤j∧j < es.length)∧K (.elt sz d0 es j.toNat 0) none
 |_,_=>False
def ixA (G:Prop) (n:Nat) (K:HK):V→V→Prop
 | .ptr m off,.d (.c (.int _ j))=>(G→0≤j∧j < n)∧K (.ptr m (off+j.toNat)) none
 | .elt sz d0 es i off,.d (.c (.int _ j))=>(G→0≤j∧j < n)∧K (.elt sz d0 es i (off+j.toNat)) none
 | .d (.pt ds),.d (.c (.int _ j))=>(G→0≤j∧j < n)∧K (.d (.pt (ds.drop j.toNat))) none
 |_,_=>False
def lenK (st:Nat→Option Blk) (K:HK):V→Prop
 | .d (.sl _ _ es)=>K (vI es.length) none
 | .ow _ _ _ es=>K (vI es.length) none
 | .d (.c (.slice none 0 0))=>K (vI 0) none
 | .mo n=>match st n with
   |some (.row _ _ _ es)=>K (vI es.length) none
   |_=>False
 |_=>False
def lenS (K:HK):V→Prop
 | .d (.c (.string s))=>K (vI s.data.toList.length) none
 |_=>False
def lenM (st:Nat→Option Blk) (K:HK):V→Prop
 | .mp n=>match st n with
   |some (.map _ _ _ _ es)=>K (vI es.length) none
   |_=>False
 | .d (.mp _ _ _ _ cs _)=>K (vI cs.length) none
 |_=>False
def ldV (G:Prop) (st:Nat→Option Blk) (i:TyI) (K:HK):V→Prop
 | .ptr n off=>match st n with
   |some (.cells _ cs)=>ldK G i (cs.drop off) K
   |_=>False
 | .elt _ d0 es j off=>(G→j < es.length)∧ldK G i ((dV (es.getD j d0)).drop off) K
 | .oel n sz j off=>match st n with
   |some (.row _ sz' d0 es)=>sz=sz'∧(G→j < es.length)∧ldK G i ((es.getD j d0).drop off) K
   |_=>False
 | .d (.pt ds)=>ldK G i (dV ds) K
 |_=>False
def addOff (d:Nat) (K:HK):V→Prop
 | .ptr n off=>K (.ptr n (off+d)) none
 | .elt sz d0 es j off=>K (.elt sz d0 es j (off+d)) none
 | .oel n sz j off=>K (.oel n sz j (off+d)) none
 | .d (.pt ds)=>K (.d (.pt (ds.drop d))) none
 |_=>False
def exK (i:Nat) (K:HK):V→Prop
 | .tup vs=>match vs[i]? with
   |some v=>K v none
   |none=>False
 |_=>False
def notK (K:HK):V→Prop
 | .d (.c (.bool b))=>K (vB (!b)) none
 |_=>False
def pickV (c a b:Bool):Bool:=(c&&a)||(!c&&b)
def pickK (G:Prop) (K:HK):V→V→V→Prop
 | .d (.c (.bool c)),.d (.c (.bool a)),.d (.c (.bool b))=>K (vB (pickV c a b)) none
 | .d (.c (.bool c)),.cond g (.d (.c (.bool a))),.d (.c (.bool b))=>(G→c=true→g=true)∧K (vB (pickV c a b)) none
 | .d (.c (.bool c)),.d (.c (.bool a)),.cond g (.d (.c (.bool b)))=>(G→c=false→g=true)∧K (vB (pickV c a b)) none
 |_,_,_=>False
def tyInt:Tab→Nat→Option IntKind:=fun T t=>match ty T t with
 |some ⟨.int k,_,_,_⟩=>some k
 |_=>none
def cvK (k:IntKind) (K:HK):V→Prop
 | .d (.c (.int _ n))=>K (.d (.c (.int k (k.wrap n)))) none
 |_=>False
def u8s:List (List D)→Option (List Int)
 |[]=>some []
 |[.c (.int .u8 n)] :: l=>(u8s l).map (n :: ·)
 |_ :: _=>none
def strK (K:HK):V→Prop
 | .d (.sl sz _ es)=>match u8s es with
   |some ns=>sz=1∧K (.d (.c (.string (strOfNums ns)))) none
   |none=>False
 | .ow _ sz _ es=>match u8s es with
   |some ns=>sz=1∧K (.d (.c (.string (strOfNums ns)))) none
   |none=>False
 |_=>False
def bytesD (s:ByteArray):List (List D):=s.data.toList.map fun b=>[.c (.int .u8 b.toNat)]
def bytK (G:Prop) (K:HK):V→Prop
 | .d (.c (.string s))=>(G→s.data.toList.length≤140737488351232)∧K (.d (.sl 1 [.c (.int .u8 0)] (bytesD s))) none
 |_=>False
def nilK (K:HK):V→Prop
 | .ptr n off=>K (.ptr n off) none
 | .elt sz d0 es j off=>K (.elt sz d0 es j off) none
 | .oel n sz j off=>K (.oel n sz j off) none
 | .d (.pt ds)=>K (.d (.pt ds)) none
 |_=>False
def idxK (G:Prop) (n:Nat) (K:HK):V→V→Prop
 | .agg cs,.d (.c (.int _ j))=>cs.length=n∧(G→0≤j∧j < n)∧match cs[j.toNat]? with
   |some v=>K v none
   |none=>False
 |_,_=>False
def strIx (G:Prop) (K:HK):V→V→Prop
 | .d (.c (.string s)),.d (.c (.int _ j))=>(G→0≤j∧j < (s.data.toList.length:Int))∧K (.d (.c (.int .u8 ((s.data.toList.getD j.toNat 0).toNat:Int)))) none
 |_,_=>False
def arrK (G:Prop) (n:Nat) (d0:List D) (K:HK):V→Prop
 | .ptr m off=>K (.osl m off n) none
 | .elt _ e0 es j off=>(G→j < es.length∧n≤((es.getD j e0).drop off).length∧n≤140737488351232)∧K (.d (.sl 1 d0 ((((es.getD j e0).drop off).take n).map fun d=>[d]))) none
 | .d (.pt ds)=>(n≤ds.length∧n≤140737488351232)∧K (.d (.sl 1 d0 ((ds.take n).map fun d=>[d]))) none
 |_=>False
def mmK (K:Int→Int→V) (K':HK):V→V→Prop
 | .d (.c (.int k a)),.d (.c (.int k' b))=>k= .i64∧k'= .i64∧K' (K a b) none
 |_,_=>False
structure Tok (K:HK):Type where
def SpecO (P:Program) (f:FuncId) (asA:List A) (el sz:Nat) (d0:List D) (es:List (List D)):Prop:=
 ∀ (F:Ft) (w:World) (us:List Value),F.lt w→RAL F w asA us→
  Calls P f us.toArray w fun e w'=>∃ v xs,e= .returned v∧Below w.heap.size w w'∧w'.ownsRow 0 el sz v es.length xs∧RDL F w' es.flatten xs∧(∀ u∈xs,u.oneCell'=true)∧(∀ x∈es,x.length=sz)∧es.length≤140737488351232∧∀ b,hb v=some b→w.heap.size≤b
def FnR (P:Program) (φ:List A→Ret→Prop):Ft→World→Value→Prop:=fun F w v=>∃ f fst cap,v= .func (.func f) fst cap∧(P.funcs[f]?).any (fun fn=>fn.name != "runtime.NumGoroutine" &&fn.body.isSome)=true∧
 ∀ G w' asA r,F.le G→Kp F w w'→G.lt w'→φ asA r→∀ us,RAL G w' asA us→Calls P f (fst++us.toArray++cap) w' fun e w''=>∃ v F',e= .returned v∧Below w'.heap.size w' w''∧FtNew G F' w' w''∧RRet F' w'' r v
theorem FnR.stab {P:Program} {φ:List A→Ret→Prop}:StabX (FnR P φ):=fun hl hk ⟨f,fst,cap,h1,h2,h3⟩=>⟨f,fst,cap,h1,h2,fun G w' asA r hG hK hlt hφ us hus=>h3 G w' asA r (Ft.le_trans hl hG) (hk.trans (hK.le hl)) hlt hφ us hus⟩
mutual
inductive Fz (P:Program) (st:Nat→Option Blk):V→D→Prop
 |d {v:V} {x:D}:toD v=some x→Fz P st v x
 |pt {n t:Nat} {cs:List V} {ds:List D}:st n=some (.cells t cs)→FzL P st cs ds→Fz P st (.ptr n 0) (.pt ds)
 |row {n el sz:Nat} {d0:List V} {dd:List D} {es:List (List V)} {es':List (List D)}:st n=some (.row el sz d0 es)→FzLL P st es es'→Fz P st (.mo n) (.sl sz dd es')
 |mp {n:Nat} {q:KQ} {k:TypeId} {zv:Value} {z0:V} {es:List (List Int×V)} {z:D} {cs:List (List Int)} {ds:List D}:st n=some (.map q k zv z0 es)→cs=es.map (·.1)→Fz P st z0 z→FzL P st (es.map (·.2)) ds→Fz P st (.mp n) (.mp q k zv z cs ds)
 |ag {cs:List V} {ds:List D}:FzL P st cs ds→Fz P st (.agg cs) (.ag ds)
 |fn {f:FuncId} {cap:List V} {capA:List A} {φ:List A→Ret→Prop}:FzA P st cap capA→(P.funcs[f]?).any (fun fn=>fn.name != "runtime.NumGoroutine" &&fn.body.isSome)=true→(∀ asA r,φ asA r→Spec P f (asA++capA) r)→Fz P st (.fn f cap) (.x (FnR P φ))
 |fm {f:FuncId} {fst:List V} {fstA:List A} {φ:List A→Ret→Prop}:FzA P st fst fstA→(P.funcs[f]?).any (fun fn=>fn.name != "runtime.NumGoroutine" &&fn.body.isSome)=true→(∀ asA r,φ asA r→Spec P f (fstA++asA) r)→Fz P st (.fm f fst) (.x (FnR P φ))
 |fc {f:FuncId} {φ:List A→Ret→Prop}:(P.funcs[f]?).any (fun fn=>fn.name != "runtime.NumGoroutine" &&fn.body.isSome)=true→(∀ asA r,φ asA r→Spec P f asA r)→Fz P st (.d (.c (.func (.func f) #[] #[]))) (.x (FnR P φ))
inductive FzL (P:Program) (st:Nat→Option Blk):List V→List D→Prop
 |nil:FzL P st [] []
 |cons {v:V} {d:D} {vs:List V} {ds:List D}:Fz P st v d→FzL P st vs ds→FzL P st (v :: vs) (d :: ds)
inductive FzLL (P:Program) (st:Nat→Option Blk):List (List V)→List (List D)→Prop
 |nil:FzLL P st [] []
 |cons {v:List V} {d:List D} {vs:List (List V)} {ds:List (List D)}:FzL P st v d→FzLL P st vs ds→FzLL P st (v :: vs) (d :: ds)
inductive FzA (P:Program) (st:Nat→Option Blk):List V→List A→Prop
 |nil:FzA P st [] []
 |one {v:V} {d:D} {vs:List V} {asA:List A}:Fz P st v d→FzA P st vs asA→FzA P st (v :: vs) (.one d :: asA)
 |agg {cs:List V} {ds:List D} {vs:List V} {asA:List A}:FzL P st cs ds→FzA P st vs asA→FzA P st (.agg cs :: vs) (.agg ds :: asA)
end
def plD:D→Bool
 | .c _=>true
 |_=>false
def plA:A→Bool
 | .one d=>plD d
 | .agg ds=>ds.all plD
def plR:Ret→Bool
 | .r1 a=>plA a
 | .rt l=>l.all plA
def callK (P:Program) (G:Prop) (st:Nat→Option Blk) (nm:Nat) (f:FuncId) (vs:List V) (K:HK) (_:Tok K):Prop:=
 (∃ asA r,toAs vs=some asA∧(G→Spec P f asA r)∧(P.funcs[f]?).any (fun fn=>fn.name != "runtime.NumGoroutine" &&fn.body.isSome)=true∧K (ofRet r) none)∨
 (∃ asA el sz d0 es,toAs vs=some asA∧(G→SpecO P f asA el sz d0 es)∧(P.funcs[f]?).any (fun fn=>fn.name != "runtime.NumGoroutine" &&fn.body.isSome)=true∧K (.mo nm) (some (.row el sz (dV d0) (es.map dV))))∨
 (∃ asA r,FzA P st vs asA∧(G→Spec P f asA r)∧(P.funcs[f]?).any (fun fn=>fn.name != "runtime.NumGoroutine" &&fn.body.isSome)=true∧plR r=true∧K (ofRet r) none)∨
 (∃ asA el sz d0 es,FzA P st vs asA∧(G→SpecO P f asA el sz d0 es)∧(P.funcs[f]?).any (fun fn=>fn.name != "runtime.NumGoroutine" &&fn.body.isSome)=true∧es.flatten.all plD=true∧K (.mo nm) (some (.row el sz (dV d0) (es.map dV))))
def sloK (P:Program) (G:Prop) (st:Nat→Option Blk) (nm:Nat) (vs:List V) (K:HK):V→Prop
 | .d (.c (.func (.func f) fst cap))=>(fst= #[]∧cap= #[])∧callK P G st nm f vs K ⟨⟩
 |_=>False
def flOf:V→Option (Nat×List D×List (List D))
 | .fl sz d0 es=>some (sz,d0,es)
 |_=>none
def apS (sz:Nat) (K:List (List D)→Prop):V→Prop
 | .d (.c (.slice none 0 0))=>K []
 | .d (.sl sz' _ fs)=>sz'=sz∧K fs
 | .ow _ sz' _ fs=>sz'=sz∧K fs
 |_=>False
def flK (i:TyI) (K:HK) (x y:V):Prop:=match flOf x with
 |some (sz,d0,es)=>sz=i.sz∧apS i.sz (fun fs=>(es.length+fs.length) * i.by_≤140737488355328∧es.length+fs.length≤140737488351232∧K (.d (.sl sz d0 (es++fs))) none) y
 |none=>False
def biK (T:Tab) (st:Nat→Option Blk) (b:Builtin) (ts:List TypeId) (vs:List V) (K:HK):Prop:=match b with
 | .len=>match ts,vs with
   |[t],[x]=>match ty T t with
     |some ⟨.slice _,_,_,_⟩=>lenK st K x
     |some ⟨.map _ _,_,_,_⟩=>lenM st K x
     |some ⟨.str,_,_,_⟩=>lenS K x
     |_=>False
   |_,_=>False
 | .append=>match ts,vs with
   |[t,t'],[x,y]=>t=t'∧match ty T t with
     |some ⟨.slice el,_,_,_⟩=>match ty T el with
       |some i=>(0 < i.sz∧i.z.cells.size=i.sz)∧flK i K x y
       |none=>False
     |_=>False
   |_,_=>False
 | .min=>match vs with
   |[x,y]=>mmK (fun a b=>vI (if b < a then b else a)) K x y
   |_=>False
 | .max=>match vs with
   |[x,y]=>mmK (fun a b=>vI (if b > a then b else a)) K x y
   |_=>False
 |_=>False
def zD (z:Value):List D:=z.cells.toList.map .c
def rowV (sz:Nat):Nat→List (Nat×V)→Option (List (List D))
 |_,[]=>some []
 |k,(i,x) :: ps=>match vcells x with
   |some cs=>match toDs cs with
     |some ds=>if i=k∧ds.length=sz then (rowV sz (k+1) ps).map (ds :: ·) else none
     |none=>none
   |none=>none
def rowW (sz:Nat):Nat→List (Nat×V)→Option (List (List V))
 |_,[]=>some []
 |k,(i,x) :: ps=>match vcells x with
   |some cs=>if i=k∧cs.length=sz then (rowW sz (k+1) ps).map (cs :: ·) else none
   |none=>none
def cutK (G:Prop) (K:HK) (sz:Nat) (d0:List D) (es:List (List D)):Option V→Option V→Prop
 |none,none=>K (.d (.sl sz d0 es)) none
 |some (.d (.c (.int _ l))),none=>(G→0≤l∧l≤es.length)∧K (.d (.sl sz d0 (es.drop l.toNat))) none
 |none,some (.d (.c (.int _ h)))=>(G→0≤h∧h≤es.length)∧K (.d (.sl sz d0 (es.take h.toNat))) none
 |some (.d (.c (.int _ l))),some (.d (.c (.int _ h)))=>(G→0≤l∧l≤h∧h≤es.length)∧K (.d (.sl sz d0 ((es.take h.toNat).drop l.toNat))) none
 |_,_=>False
def icells:List V→Option (List Int)
 |[]=>some []
 | .d (.c (.int .i64 n)) :: l=>(icells l).map (n :: ·)
 |_ :: _=>none
def EqInts (P:Program) (t n:Nat):Prop:=∀ (w:World) (x y:Operand) (a b:List Int),a.length=n→b.length=n→∀ op,(op= .eql∨op= .neq)→
 (do eqGuard op t x y (.agg (a.map (Value.int .i64)).toArray) (.agg (b.map (Value.int .i64)).toArray);binOp op t (.agg (a.map (Value.int .i64)).toArray) (.agg (b.map (Value.int .i64)).toArray):Sem Value).run P w= .ok (.bool (if op= .eql then a==b else !(a==b))) w
def eqop (b:Bool) (K:V→Prop):BinOp→Prop
 | .eql=>K (vB b)
 | .neq=>K (vB (!b))
 |_=>False
def PtrTy (P:Program) (t:Nat):Prop:=∃ e,P.underlying t=some (.pointer e)
def kcells:List V→Option (List (IntKind×Int))
 |[]=>some []
 | .d (.c (.int k n)) :: l=>(kcells l).map ((k,n) :: ·)
 |_=>none
def kvals (l:List (IntKind×Int)):List Value:=l.map fun p=>Value.int p.1 p.2
def EqKInts (P:Program) (t:Nat) (ks:List IntKind):Prop:=∀ (w:World) (x y:Operand) (a b:List (IntKind×Int)),a.map (·.1)=ks→b.map (·.1)=ks→∀ op,(op= .eql∨op= .neq)→
 (do eqGuard op t x y (.agg (kvals a).toArray) (.agg (kvals b).toArray);binOp op t (.agg (kvals a).toArray) (.agg (kvals b).toArray):Sem Value).run P w= .ok (.bool (if op= .eql then a==b else !(a==b))) w
def strop (a b:ByteArray) (K:V→Prop):BinOp→Prop
 | .eql=>K (vB (a.toList==b.toList))
 | .neq=>K (vB (!(a.toList==b.toList)))
 | .lss=>K (vB (Op.bytesLess a.toList b.toList))
 |_=>False
def binK (P:Program) (T:Tab) (op:BinOp) (t:Nat) (G:Prop) (K:V→Prop):V→V→Prop
 | .d (.c (.int k a)),.d (.c (.int k' b))=>iop2 G op k k' a b K
 | .d (.c (.bool a)),.d (.c (.bool b))=>match ty T t with
   |some ⟨.bool,_,_,_⟩=>eqop (a==b) K op
   |_=>False
 | .agg xs,.agg ys=>match icells xs,icells ys with
   |some a,some b=>(a.length=b.length∧EqInts P t a.length)∧eqop (a==b) K op
   |_,_=>match kcells xs,kcells ys with
     |some a,some b=>(a.map (·.1)=b.map (·.1)∧EqKInts P t (a.map (·.1)))∧eqop (a==b) K op
     |_,_=>False
 | .d (.c (.string a)),.d (.c (.string b))=>match ty T t with
   |some ⟨.str,_,_,_⟩=>strop a b K op
   |_=>False
 | .ptr _ _,.d (.c (.pointer none))=>PtrTy P t∧eqop false K op
 | .d (.pt _),.d (.c (.pointer none))=>PtrTy P t∧eqop false K op
 | .d (.c (.pointer none)),.d (.c (.pointer none))=>PtrTy P t∧eqop true K op
 | .mp _,.d (.c (.map none))=>match ty T t with
   |some ⟨.map _ _,_,_,_⟩=>eqop false K op
   |_=>False
 | .d (.c (.map none)),.d (.c (.map none))=>match ty T t with
   |some ⟨.map _ _,_,_,_⟩=>eqop true K op
   |_=>False
 |_,_=>False
def keyV:KQ→V→Option (List Int)
 | .i,.d (.c (.int .i64 n))=>some [n]
 | .p _,.agg xs=>icells xs
 | .s,.d (.c (.string s))=>some (s.data.toList.map fun b=>(b.toNat:Int))
 |_,_=>none
structure KeyOk (P:Program) (k:TypeId) (q:KQ):Prop where
 keyed:Go.Maps.Keyed P k
 fit:∀ u c,keyC q u=some c→fitK q c→(keyOf P k u).isSome=true
def lkM (c:List Int):List (List Int×V)→Option V
 |[]=>none
 |(d,x) :: l=>if c=d then some x else lkM c l
def upM (c:List Int) (v:V):List (List Int×V)→List (List Int×V)
 |[]=>[(c,v)]
 |(d,x) :: l=>if c=d then (c,v) :: l else (d,x) :: upM c v l
def dlM (c:List Int):List (List Int×V)→List (List Int×V)
 |[]=>[]
 |(d,x) :: l=>if c=d then l else (d,x) :: dlM c l
def kq:TyK→Option KQ
 | .int .i64=>some .i
 | .arr n _=>some (.p n)
 | .struct fs=>some (.p fs.length)
 | .str=>some .s
 |_=>none
def vD:D→V
 | .ag ds=> .agg (dV ds)
 |x=> .d x
def zipM:List (List Int)→List D→List (List Int×V)
 |c :: cs,x :: es=>(c,vD x) :: zipM cs es
 |_,_=>[]
def lookK (P:Program) (G:Prop) (st:Nat→Option Blk) (k:Nat) (i:TyI) (ok:Bool) (K:HK) (x:V):V→Prop
 | .mp n=>match st n with
   |some (.map q k' zv z0 es)=>match keyV q x with
     |some c=>(k'=k∧zv=i.z)∧KeyOk P k q∧(G→fitK q c)∧K (match ok with|true=> .tup [(lkM c es).getD z0,vB (lkM c es).isSome]|false=>(lkM c es).getD z0) none
     |none=>False
   |_=>False
 | .d (.mp q k' zv z0 cs es)=>match keyV q x with
   |some c=>(k'=k∧zv=i.z)∧KeyOk P k q∧(G→fitK q c)∧K (match ok with|true=> .tup [(lkM c (zipM cs es)).getD (vD z0),vB (lkM c (zipM cs es)).isSome]|false=>(lkM c (zipM cs es)).getD (vD z0)) none
   |none=>False
 |_=>False
def FieldOne (P:Program) (s f:Nat):Prop:=∃ fields fl,P.underlying s=some (.struct fields)∧fields[f]? =some fl∧(P.underlying fl.type).map (·.isRow)=some false
def hop (P:Program) (T:Tab) (G:Prop) (op:Op) (e:Operand→V) (st:Nat→Option Blk) (nm:Nat) (K:HK):Prop:=
 match op with
 | .move x=>K (e x) none
 | .assign x=>K (e x) none
 | .pick c x y=>pickK G K (e c) (e x) (e y)
 | .extract x i=>exK i K (e x)
 | .load t x=>match ty T t with
   |some i=>ldV G st i K (e x)
   |none=>False
 | .alloc t=>match ty T t with
   |some i=>allOne i.z=true∧K (.ptr nm 0) (some (.cells t (zcells i.z)))
   |none=>False
 | .fieldAddr s x f=>match ty T s with
   |some ⟨.struct fs,_,_,_⟩=>match fs[f]? with
     |some (d,sz)=>sz≠0∧addOff d K (e x)
     |none=>False
   |_=>False
 | .field s x f=>match ty T s,e x with
   |some ⟨.struct fs,_,_,_⟩,.agg cs=>match fs[f]? with
     |some (d,_)=>match (cs.drop d).head? with
       |some c=>FieldOne P s f∧K c none
       |none=>False
     |none=>False
   |_,_=>False
 | .indexAddr t x y=>match ty T t with
   |some ⟨.slice el,_,_,_⟩=>match ty T el with
     |some i=>ixK G st i.sz K (e x) (e y)
     |none=>False
   |some ⟨.arr n el,_,_,_⟩=>match ty T el with
     |some ⟨_,1,_,_⟩=>ixA G n K (e x) (e y)
     |_=>False
   |_=>False
 | .binOp op t x y _=>binK P T op t G (fun v=>K v none) (e x) (e y)
 | .unOp .not _ x=>notK K (e x)
 | .convert s t x=>match tyInt T t with
   |some k=>match ty T s with
     |some _=>cvK k K (e x)
     |none=>False
   |none=>match ty T s,ty T t with
     |some ⟨.slice el,_,_,_⟩,some ⟨.str,_,_,_⟩=>tyInt T el=some .u8∧strK K (e x)
     |some ⟨.str,_,_,_⟩,some ⟨.slice el,_,_,_⟩=>tyInt T el=some .u8∧bytK G K (e x)
     |_,_=>False
 | .build t parts=>match ty T t with
   |some ⟨.struct fs,_,z,_⟩=>match fillV (fs[·]?) (zcells z) (parts.toList.map fun (i,x)=>(i,e x)) with
     |some cs=>allOne z=true∧K (.agg cs) none
     |none=>False
   |some ⟨.arr _ el,_,z,_⟩=>match ty T el with
     |some ⟨_,1,_,_⟩=>match fillV (fun i=>some (i,1)) (zcells z) (parts.toList.map fun (i,x)=>(i,e x)) with
       |some cs=>allOne z=true∧K (.agg cs) none
       |none=>False
     |_=>False
   |_=>False
 | .box t x=>match vcells (e x) with
   |some cs=>K (.ptr nm 0) (some (.cells t cs))
   |none=>False
 | .slice t x lo hi none=>match ty T t with
   |some ⟨.slice el,_,_,_⟩=>match ty T el,slOf (e x) with
     |some i,some (sz,d0,es)=>sz=i.sz∧cutK G K sz d0 es (lo.map e) (hi.map e)
     |_,_=>False
   |some ⟨.arr n el,_,_,_⟩=>match ty T el,lo,hi with
     |some ⟨_,1,z,_⟩,none,none=>arrK G n (zD z) K (e x)
     |_,_,_=>False
   |_=>False
 | .nilCheck x=>nilK K (e x)
 | .index t x y=>match ty T t with
   |some ⟨.arr n el,_,_,_⟩=>match ty T el with
     |some ⟨kd,1,_,_⟩=>kd.agg=false∧idxK G n K (e x) (e y)
     |_=>False
   |some ⟨.str,_,_,_⟩=>strIx G K (e x) (e y)
   |_=>False
 | .slice t x none (some h) (some m)=>match ty T t with
   |some ⟨.slice el,_,_,_⟩=>match ty T el,slOf (e x),e h,e m with
     |some i,some (sz,d0,es),.d (.c (.int _ a)),.d (.c (.int _ b))=>sz=i.sz∧(G→0≤a∧a=b∧b≤es.length)∧K (.fl sz d0 (es.take a.toNat)) none
     |_,_,_,_=>False
   |_=>False
 | .buildSlice t len parts=>match ty T t with
   |some ⟨.slice el,_,_,_⟩=>match ty T el with
     |some i=>match rowV i.sz 0 (parts.toList.map fun (i,x)=>(i,e x)) with
       |some es=>(es.length=len∧len * i.sz≤16777216∧0 < i.sz∧i.z.cells.size=i.sz)∧K (.ow nm i.sz (zD i.z) es) (some (.tok el i.sz len))
       |none=>match rowW i.sz 0 (parts.toList.map fun (i,x)=>(i,e x)) with
         |some es=>(es.length=len∧len * i.sz≤16777216∧0 < i.sz∧i.z.cells.size=i.sz)∧K (.mo nm) (some (.row el i.sz (dV (zD i.z)) es))
         |none=>False
     |none=>False
   |_=>False
 | .makeSlice t l c=>match ty T t with
   |some ⟨.slice el,_,_,_⟩=>match ty T el,e l,e c with
     |some i,.d (.c (.int _ a)),.d (.c (.int _ b))=>(G→a=b∧0≤a∧a≤1048576∧i.by_≤65536)∧(0 < i.sz∧i.z.cells.size=i.sz∧allOne i.z=true)∧K (.mo nm) (some (.row el i.sz (dV (zD i.z)) (List.replicate a.toNat (dV (zD i.z)))))
     |_,_,_=>False
   |_=>False
 | .makeFunc (.func f) fs cs=>match fs.toList,cs.toList with
   |[],_=>K (.fn f (cs.toList.map e)) none
   |_ :: _,[]=>K (.fm f (fs.toList.map e)) none
   |_,_=>False
 | .makeMap t none=>match ty T t with
   |some ⟨.map k el,_,_,_⟩=>match ty T k,ty T el with
     |some ⟨kd,_,_,_⟩,some i=>match kq kd with
       |some q=>allOne i.z=true∧K (.mp nm) (some (.map q k i.z (ofC i.z) []))
       |none=>False
     |_,_=>False
   |_=>False
 | .lookup t m x ok=>match ty T t with
   |some ⟨.map k el,_,_,_⟩=>match ty T el with
     |some i=>lookK P G st k i ok K (e x) (e m)
     |none=>False
   |_=>False
 | .call c=>match c.callee with
   | .builtin b=>biK T st b c.argTypes.toList (c.args.toList.map e) K
   | .value (.func f)=>callK P G st nm f (c.args.toList.map e) K ⟨⟩
   | .value (.tmp t)=>sloK P G st nm (c.args.toList.map e) K (e (.tmp t))
   |_=>False
 |_=>False

section
variable {P:Program} {T:Tab} {o:Oper} {e:Operand→V} {st:Nat→Option Blk} {nm:Nat}
theorem HD.val {v:V} (h:∀ (B:Base) (E:Env) (ρ:Operand→Value),(∀ y∈o.op.operands,RV E (e y) (ρ y))→(∀ n b,st n=some b→RBk P B E n b)→∃ u,(execOp ρ o).run P E.w= .ok (.value u) E.w∧RV E v u):HD P o e st nm v none:=by
 intro B E ρ h1 _ h2 _ _ _
 obtain ⟨u,hr,hv⟩:=h B E ρ h1 h2
 rw [hr]
 exact ⟨E,rfl,HStep.refl E nm,hv,rfl⟩
theorem HD.new {v:V} {x:Blk} (h:∀ (B:Base) (E:Env) (ρ:Operand→Value),(∀ y∈o.op.operands,RV E (e y) (ρ y))→(∀ n b,st n=some b→RBk P B E n b)→E.F.lt E.w→B.w0.heap.size≤E.w.heap.size→E.η nm=none→
  ∃ u E',(execOp ρ o).run P E.w= .ok (.value u) E'.w∧HStep E E' nm∧RV E' v u∧NewB P B E E' nm (some x)):HD P o e st nm v (some x):=by
 intro B E ρ h1 _ h2 h3 h4 h5
 obtain ⟨u,E',hr,h6,h7,h8⟩:=h B E ρ h1 h2 h3 h4 h5
 rw [hr]
 exact ⟨E',rfl,h6,h7,h8⟩
theorem hd_move {x:Operand} (ho:o.op= .move x):HD P o e st nm (e x) none:=HD.val fun B E ρ h1 _=>⟨ρ x,by simp [execOp,ho],h1 x (by simp [Op.operands,ho])⟩
theorem hd_assign {x:Operand} (ho:o.op= .assign x):HD P o e st nm (e x) none:=HD.val fun B E ρ h1 _=>⟨ρ x,by simp [execOp,ho],h1 x (by simp [Op.operands,ho])⟩
theorem hd_extract {x:Operand} {i:Nat} {vs:List V} {v:V} (ho:o.op= .extract x i) (hx:e x= .tup vs) (hi:vs[i]? =some v):HD P o e st nm v none:=HD.val fun B E ρ h1 _=>by
 have hr:=h1 x (by simp [Op.operands,ho])
 rw [hx] at hr
 simp only [RV] at hr
 obtain ⟨us,hu,hl⟩:=hr
 obtain ⟨u,h3,h4⟩:=hl.get hi
 exact ⟨u,by simp [execOp,ho,hu,Instr.extract,h3],h4⟩
theorem ld_run {E:Env} {t:Nat} {i:TyI} (hi:TyOk P t i) {b off:Nat} {cs:List V} {us:List Value} (hl:RVL E cs us) (h1:∀ u∈us,u.oneCell'=true) (hc:∀ j u,us[j]? =some u→E.w.cell? ⟨b,off+j,none⟩=some u) {K:HK} (h:ldK True i cs K):
  ∃ v u,K v none∧(Instr.loadAt t (.pointer (some ⟨b,off,none⟩))).run P E.w= .ok u E.w∧RV E v u:=by
 obtain ⟨d,hd1,hd2⟩:=hi.row
 unfold ldK at h
 cases ha:i.kd.agg with
 |true=>
   rw [ha] at h
   obtain ⟨hsz,hK⟩:=h
   have hsz:=hsz trivial
   have hlen:=hl.len
   refine ⟨_,.agg (us.take i.sz).toArray,hK,run_loadAt_mid E.w b off t (us.take i.sz) d (fun j v hj=>?_) hd1 (by rw [hd2,ha]) (by rw [hi.size,List.length_take];congr 1;omega),?_⟩
   ·rw [List.getElem?_take] at hj
    split at hj
    ·exact hc j v hj
    ·cases hj
   ·simp only [RV]
    exact ⟨_,rfl,hl.take _,fun u hu=>h1 u (List.mem_of_mem_take hu)⟩
 |false=>
   rw [ha] at h
   simp only at h
   split at h
   ·rename_i c hc0
    obtain ⟨cs',rfl⟩:∃ cs',cs=c :: cs':=by
     cases cs with
     |nil=>cases hc0
     |cons y ys=>cases hc0;exact ⟨ys,rfl⟩
    simp only [RVL] at hl
    obtain ⟨u,r,rfl,h3,h4⟩:=hl
    have hcell:=hc 0 u (by simp)
    refine ⟨c,u,h,?_,h3⟩
    simp only [Nat.add_zero] at hcell
    simp [Instr.loadAt,Instr.sureAddr,loadVar,hi.isAgg,ha,run_load,hcell]
   ·exact h.elim
theorem RBk.cells_get {B:Base} {E:Env} {n b off:Nat} {t:Nat} {cs:List V} (h:RBk P B E n (.cells t cs)) (hp:E.η n=some (.pointer (some ⟨b,0,none⟩))):
  ∃ us:List Value,RVL E cs us∧(∀ u∈us,u.oneCell'=true)∧E.w.heap[b]? =some (.cells us.toArray t (0,0))∧∀ j u,(us.drop off)[j]? =some u→E.w.cell? ⟨b,off+j,none⟩=some u:=by
 obtain ⟨b',us,h1,h2,h3,h4,_⟩:=h
 rw [hp] at h1
 cases h1
 refine ⟨us,h3,h4,h2,fun j u hj=>?_⟩
 rw [List.getElem?_drop] at hj
 simp [World.cell?,h2,hj]
theorem ldK_val {G:Prop} {i:TyI} {cs:List V} {K:HK} (h:ldK G i cs K):∃ v,K v none∧(G→∀ K':HK,K' v none→ldK True i cs K'):=by
 unfold ldK at h ⊢
 cases ha:i.kd.agg<;>rw [ha] at h<;>simp only at h ⊢
 ·split at h
  ·exact ⟨_,h,fun _ K' h'=>h'⟩
  ·exact h.elim
 ·exact ⟨_,h.2,fun hG K' h'=>⟨fun _=>h.1 hG,h'⟩⟩
theorem hd_load_ptr {G:Prop} {t:Nat} {i:TyI} (hi:TyOk P t i) {x:Operand} (ho:o.op= .load t x) {n off:Nat} (hx:e x= .ptr n off) {t':Nat} {cs:List V} (hst:st n=some (.cells t' cs)) {K:HK} (h:ldK G i (cs.drop off) K):
  ∃ v,K v none∧(G→HD P o e st nm v none):=by
 obtain ⟨v,hK,hv⟩:=ldK_val h
 refine ⟨v,hK,fun hG=>HD.val fun B E ρ h1 h2=>?_⟩
 have hr:=h1 x (by simp [Op.operands,ho])
 rw [hx] at hr
 simp only [RV] at hr
 obtain ⟨b,hb1,hb2⟩:=hr
 obtain ⟨us,g1,g2,g3,g4⟩:=(h2 n _ hst).cells_get (off:=off) hb1
 obtain ⟨v',u,k1,k2,k3⟩:=ld_run hi (g1.drop off) (fun u hu=>g2 u (List.mem_of_mem_drop hu)) g4 (hv hG (fun v' _=>v'=v) rfl)
 subst k1
 exact ⟨u,by simp [execOp,ho,hb2,k2],k3⟩
theorem hd_load_elt {G:Prop} {t:Nat} {i:TyI} (hi:TyOk P t i) {x:Operand} (ho:o.op= .load t x) {sz:Nat} {d0:List D} {es:List (List D)} {j off:Nat} (hx:e x= .elt sz d0 es j off) (hj:G→j < es.length) {K:HK} (h:ldK G i ((dV (es.getD j d0)).drop off) K):
  ∃ v,K v none∧(G→HD P o e st nm v none):=by
 obtain ⟨v,hK,hv⟩:=ldK_val h
 refine ⟨v,hK,fun hG=>HD.val fun B E ρ h1 h2=>?_⟩
 have hj:=hj hG
 have hr:=h1 x (by simp [Op.operands,ho])
 rw [hx] at hr
 simp only [RV] at hr
 obtain ⟨b,o',hp,hrow⟩:=hr
 have hge:es[j]? =some (es.getD j d0):=by simp [List.getD,hj]
 obtain ⟨b',o'',us,h3,h4,h5,h6,h7⟩:=hrow.get hge
 cases h3
 obtain ⟨v',u,k1,k2,k3⟩:=ld_run (E:=E) hi (b:=b) (off:=o'+j * sz+off) ((RVL.of_data h4).drop off) (fun u hu=>h6 u (List.mem_of_mem_drop hu)) (fun k u hk=>by
  rw [List.getElem?_drop] at hk
  have:=(h7 _ u hk).2
  rw [show o'+j * sz+off+k=o'+0+j * sz+(off+k) by omega]
  exact this) (hv hG (fun v' _=>v'=v) rfl)
 subst k1
 exact ⟨u,by simp [execOp,ho,hp,k2],k3⟩
theorem hd_load_pt {G:Prop} {t:Nat} {i:TyI} (hi:TyOk P t i) {x:Operand} (ho:o.op= .load t x) {ds:List D} (hx:e x= .d (.pt ds)) {K:HK} (h:ldK G i (dV ds) K):
  ∃ v,K v none∧(G→HD P o e st nm v none):=by
 obtain ⟨v,hK,hv⟩:=ldK_val h
 refine ⟨v,hK,fun hG=>HD.val fun B E ρ h1 h2=>?_⟩
 have hr:=h1 x (by simp [Op.operands,ho])
 rw [hx] at hr
 simp only [RV,RD] at hr
 obtain ⟨b,o',us,hp,h4,h6,h7⟩:=hr
 obtain ⟨v',u,k1,k2,k3⟩:=ld_run (E:=E) hi (b:=b) (off:=o') (RVL.of_data h4) h6 (fun k u hk=>(h7 k u hk).2) (hv hG (fun v' _=>v'=v) rfl)
 subst k1
 exact ⟨u,by simp [execOp,ho,hp,k2],k3⟩
theorem hd_load_oel {G:Prop} {t:Nat} {i:TyI} (hi:TyOk P t i) {x:Operand} (ho:o.op= .load t x) {n sz j off:Nat} (hx:e x= .oel n sz j off) {t':Nat} {d0:List V} {es:List (List V)} (hst:st n=some (.row t' sz d0 es)) (hj:G→j < es.length) {K:HK} (h:ldK G i ((es.getD j d0).drop off) K):
  ∃ v,K v none∧(G→HD P o e st nm v none):=by
 obtain ⟨v,hK,hv⟩:=ldK_val h
 refine ⟨v,hK,fun hG=>HD.val fun B E ρ h1 h2=>?_⟩
 have hj:=hj hG
 have hr:=h1 x (by simp [Op.operands,ho])
 rw [hx] at hr
 simp only [RV] at hr
 obtain ⟨b,l,c,hp,hp2⟩:=hr
 obtain ⟨v0,us,g1,g2,g3,g4,g5,g6,g7⟩:=h2 n _ hst
 rw [hp] at g1
 cases g1
 have hcells:=fun j u=>g2.cells (g:=b) rfl j u
 have hge:es[j]? =some (es.getD j d0):=by simp [List.getD,hj]
 have hfl:∀ (es:List (List V)) (us:List Value) (j:Nat) (x:List V),RVL E es.flatten us→(∀ y∈es,y.length=sz)→es[j]? =some x→RVL E x ((us.drop (j * sz)).take sz):=by
  intro es
  induction es with
  |nil=>intro us j x _ _ hx;simp at hx
  |cons y es ih=>
    intro us j x hu hz hx
    simp only [List.flatten_cons] at hu
    have hy:=hz y (by simp)
    have t1:=hu.take y.length
    have t2:=hu.drop y.length
    simp only [List.take_left',List.drop_left'] at t1 t2
    cases j with
    |zero=>simp at hx;subst hx;rw [Nat.zero_mul,List.drop_zero,← hy];exact t1
    |succ j=>
      have:=ih (us.drop y.length) j x t2 (fun z hz'=>hz z (by simp [hz'])) (by simpa using hx)
      rw [List.drop_drop,hy] at this
      rw [Nat.add_mul,Nat.one_mul,Nat.add_comm (j * sz)]
      exact this
 have h8:=hfl es us j _ g3 g4 hge
 obtain ⟨v',u,k1,k2,k3⟩:=ld_run (E:=E) hi (b:=b) (off:=j * sz+off) (h8.drop off) (fun u hu=>g5 u (List.mem_of_mem_drop (List.mem_of_mem_take (List.mem_of_mem_drop hu)))) (fun k u hk=>by
  rw [List.getElem?_drop,List.getElem?_take] at hk
  split at hk
  ·rw [List.getElem?_drop] at hk
   have:=hcells _ _ hk
   rw [Addr.add_mid] at this
   rw [show j * sz+off+k=0+(j * sz+(off+k)) by omega]
   exact this
  ·cases hk) (hv hG (fun v' _=>v'=v) rfl)
 subst k1
 exact ⟨u,by simp [execOp,ho,hp2,k2],k3⟩
theorem rmp_get {q:KQ} {k:TypeId} {E:Env}:∀ {ms:List MapEntry} {es:List (List Int×V)},RMp P q k E ms es→ms.length=es.length∧keysR q ms (es.map (·.1))∧∀ (i:Nat) e x,ms[i]? =some e→es[i]? =some x→RV E x.2 e.val
 |[],[],_=>⟨rfl,trivial,fun i e x h=>by simp at h⟩
 |a :: ms,(c,y) :: es,h=>by
   obtain ⟨i1,i2,i3⟩:=rmp_get h.2
   refine ⟨by simp [i1],⟨⟨h.1.1,h.1.2.1⟩,i2⟩,fun i e x h1 h2=>?_⟩
   cases i with
   |zero=>simp at h1 h2;subst h1;subst h2;exact h.1.2.2
   |succ i=>exact i3 i e x (by simpa using h1) (by simpa using h2)
 |[],_ :: _,h=>by simp only [RMp] at h
 |_ :: _,[],h=>by simp only [RMp] at h
end

section
variable {P:Program} {T:Tab} {o:Oper} {e:Operand→V} {st:Nat→Option Blk} {nm:Nat}
def Env.name (E:Env) (nm:Nat) (v:Value) (F:Ft) (w:World):Env:=⟨fun n=>if n=nm then some v else E.η n,F,w,E.dp⟩
theorem hstep_name {E:Env} {nm:Nat} {v:Value} {F:Ft} {w:World} (hb:Below E.w.heap.size E.w w) (hF:FtNew E.F F E.w w):HStep E (E.name nm v F w) nm:=
 ⟨hb,fun n hn=>by simp [Env.name,hn],hF,rfl⟩
theorem FtNew.same {F:Ft} {w w':World}:FtNew F F w w':=⟨Ft.le_refl _,fun _ _ h=> .inl h,fun _ h=> .inl h⟩
theorem below_alloc (w:World) (o:Obj):Below w.heap.size w (w.alloc o):=(Below.refl _ _).alloc (Nat.le_refl _) _
theorem RVL.const {E:Env}:∀ (us:List Value),RVL E (us.map fun c=> .d (.c c)) us
 |[]=>by simp [RVL]
 |u :: us=>by simp only [List.map_cons,RVL,RV,RD];exact ⟨u,us,rfl,rfl,RVL.const us⟩
theorem okB_new {B:Base} {E:Env} {nm:Nat} {v:Value} {w:World} {b:Nat} {p:Nat→Prop} (hl:E.F.lt E.w) (hB:B.w0.heap.size≤E.w.heap.size) (hb:b=E.w.heap.size) (hw:b < w.heap.size):okB B (E.name nm v E.F w) b p:=
 ⟨.inl (by omega),hw,fun h=>by have:=hl.2 b h;omega,fun o h=>by have:=hl.1 b o h;omega⟩
theorem hd_alloc {t:Nat} {i:TyI} (hi:TyOk P t i) (ho:o.op= .alloc t) (h1:allOne i.z=true):HD P o e st nm (.ptr nm 0) (some (.cells t (zcells i.z))):=
 HD.new fun B E ρ _ _ hl hB hn=>by
  refine ⟨.pointer (some ⟨E.w.heap.size,0,none⟩),E.name nm (.pointer (some ⟨E.w.heap.size,0,none⟩)) E.F (E.w.alloc (.cells i.z.cells t)),?_,hstep_name (below_alloc _ _) FtNew.same,?_,?_⟩
  ·simp only [execOp,ho,Instr.alloc,Sem.run_bind,hi.zero,Result.andThen_ok,newVar,newRow]
   rfl
  ·simp only [RV]
   exact ⟨_,by simp [Env.name],rfl⟩
  ·refine ⟨.pointer (some ⟨E.w.heap.size,0,none⟩),by simp [Env.name],fun b hb=>by cases hb;exact Nat.le_refl _,_,i.z.cells.toList,by simp [Env.name],by simp only [Env.name,Array.toArray_toList];exact heap_alloc_new _ _,RVL.const _,fun u hu=>List.all_eq_true.1 h1 u hu,okB_new hl hB rfl (by simp)⟩
theorem kd_struct {t:Nat} {fs:List (Nat×Nat)} (h:kdOk P t (.struct fs)) {f d s:Nat} (hf:fs[f]? =some (d,s)):∃ fields fl,P.underlying t=some (.struct fields)∧fields[f]? =some fl∧fl.offset=d∧(P.info? fl.type).map (·.size)=some s:=by
 simp only [kdOk] at h
 split at h
 ·rename_i fields hu
  injection h with h
  have h2:(fields.toList.map fun f=>(f.offset,(P.info? f.type).map (·.size)))[f]? =(fs.map fun x=>(x.1,some x.2))[f]?:=by rw [h]
  rw [List.getElem?_map,List.getElem?_map,hf] at h2
  cases hx:fields.toList[f]? with
  |none=>rw [hx] at h2;cases h2
  |some fl=>
    rw [hx] at h2
    simp at h2
    refine ⟨fields,fl,hu,by simpa using hx,h2.1,?_⟩
    obtain ⟨a,h3,h4⟩:=h2.2
    rw [h3,Option.map_some,h4]
 ·cases h
theorem Addr.add_any (b o j:Nat):(⟨b,o,none⟩:Addr).add j=⟨b,o+j,none⟩:=by unfold Addr.add;split<;>simp_all
theorem field_run {t:Nat} {fs:List (Nat×Nat)} {sz bt:Nat} {z:Value} (h:TyOk P t ⟨.struct fs,sz,z,bt⟩) {f d s:Nat} (hf:fs[f]? =some (d,s)) (hs:s≠0) (b o:Nat) (w:World):
  (Instr.fieldAt t (.pointer (some ⟨b,o,none⟩)) f).run P w= .ok (.pointer (some ⟨b,o+d,none⟩)) w:=by
 obtain ⟨fields,fl,hu,hfl,hd,hsz⟩:=kd_struct h.2 hf
 cases hi:P.info? fl.type with
 |none=>rw [hi] at hsz;cases hsz
 |some j=>
   rw [hi] at hsz
   simp at hsz
   simp [Instr.fieldAt,run_underlying hu,hfl,Instr.sureAddr,fieldPlace,Go.sizeOf,typeInfo,hi,hsz,hs,hd,Addr.add_any]
theorem hd_fieldAddr {t:Nat} {fs:List (Nat×Nat)} {sz bt:Nat} {z:Value} (h:TyOk P t ⟨.struct fs,sz,z,bt⟩) {f d s:Nat} (hf:fs[f]? =some (d,s)) (hs:s≠0) {x:Operand} (ho:o.op= .fieldAddr t x f) {K:HK}
  (hK:addOff d K (e x)):∃ v,K v none∧HD P o e st nm v none:=by
 unfold addOff at hK
 split at hK<;>try exact hK.elim
 ·rename_i n off hx
  refine ⟨_,hK,HD.val fun B E ρ h1 h2=>?_⟩
  have hr:=h1 x (by simp [Op.operands,ho])
  rw [hx] at hr
  simp only [RV] at hr
  obtain ⟨b,hb1,hb2⟩:=hr
  refine ⟨.pointer (some ⟨b,off+d,none⟩),?_,?_⟩
  ·have:=field_run h hf hs b off E.w
   simp [execOp,ho,hb2,this]
  ·simp only [RV];exact ⟨b,hb1,rfl⟩
 ·rename_i sz d0 es j off hx
  refine ⟨_,hK,HD.val fun B E ρ h1 h2=>?_⟩
  have hr:=h1 x (by simp [Op.operands,ho])
  rw [hx] at hr
  simp only [RV] at hr
  obtain ⟨b,o',hb2,hb1⟩:=hr
  refine ⟨.pointer (some ⟨b,o'+j * sz+(off+d),none⟩),?_,?_⟩
  ·have:=field_run h hf hs b (o'+j * sz+off) E.w
   simp only [execOp,ho,hb2,Sem.run_bind,this]
   simp [Nat.add_assoc]
  ·simp only [RV];exact ⟨b,o',rfl,hb1⟩
 ·rename_i n sz j off hx
  refine ⟨_,hK,HD.val fun B E ρ h1 h2=>?_⟩
  have hr:=h1 x (by simp [Op.operands,ho])
  rw [hx] at hr
  simp only [RV] at hr
  obtain ⟨b,l,c,hb1,hb2⟩:=hr
  refine ⟨.pointer (some ⟨b,j * sz+(off+d),none⟩),?_,?_⟩
  ·have:=field_run h hf hs b (j * sz+off) E.w
   simp only [execOp,ho,hb2,Sem.run_bind,this]
   simp [Nat.add_assoc]
  ·simp only [RV];exact ⟨b,l,c,hb1,rfl⟩
 ·rename_i ds hx
  refine ⟨_,hK,HD.val fun B E ρ h1 h2=>?_⟩
  have hr:=h1 x (by simp [Op.operands,ho])
  rw [hx] at hr
  simp only [RV,RD] at hr
  obtain ⟨b,o',us,hb2,h4,h6,h7⟩:=hr
  refine ⟨.pointer (some ⟨b,o'+d,none⟩),?_,?_⟩
  ·have:=field_run h hf hs b o' E.w
   simp only [execOp,ho,hb2,Sem.run_bind,this]
   simp
  ·simp only [RV,RD]
   refine ⟨b,o'+d,us.drop d,rfl,h4.drop d,fun u hu=>h6 u (List.mem_of_mem_drop hu),fun j u hj=>?_⟩
   rw [List.getElem?_drop] at hj
   have:=h7 _ u hj
   rwa [show o'+d+j=o'+(d+j) by omega]
theorem slOf_ok {E:Env} {x:V} {sz:Nat} {d0:List D} {es:List (List D)} {v:Value} (h:slOf x=some (sz,d0,es)) (hv:RV E x v):RD E.F E.w (.sl sz d0 es) v:=by
 unfold slOf at h
 split at h<;>try (cases h;done)
 ·cases h;simpa only [RV] using hv
 ·cases h;simp only [RV] at hv;exact hv.2
theorem elem_of {t el:Nat} (h:P.underlying t=some (.slice el)):P.underlying t=some (.slice (P.elem t)):=by simp [Program.elem,h]
theorem elem_eq {t el:Nat} (h:P.underlying t=some (.slice el)):P.elem t=el:=by simp [Program.elem,h]
theorem hd_indexAddr_sl {t el:Nat} {i:TyI} (ht:P.underlying t=some (.slice el)) (hi:TyOk P el i) {x y:Operand} (ho:o.op= .indexAddr t x y) {k:IntKind} {j:Int} (hy:e y= .d (.c (.int k j))) {sz:Nat} {d0:List D} {es:List (List D)} (hx:slOf (e x)=some (sz,d0,es)) (hsz:sz=i.sz) (hj0:0≤j) (hj:j < es.length):
  HD P o e st nm (.elt sz d0 es j.toNat 0) none:=HD.val fun B E ρ h1 h2=>by
 have hrx:=slOf_ok hx (h1 x (by simp [Op.operands,ho]))
 have hry:=h1 y (by simp [Op.operands,ho])
 rw [hy] at hry
 simp only [RV,RD] at hry
 simp only [RD] at hrx
 obtain ⟨a,cap,hv,h3,h4,h5⟩:=hrx
 cases a with
 |none=>have:=RR.none_nil h5;subst this;simp at hj;omega
 |some ad=>
   have hlt:j.toNat < es.length:=by omega
   obtain ⟨b,o',us,hae,_⟩:=h5.get (i:=j.toNat) (List.getElem?_eq_getElem hlt)
   cases hae
   refine ⟨.pointer (some ⟨b,o'+j.toNat * sz,none⟩),?_,?_⟩
   ·simp only [execOp,ho,hv,hry]
    rw [Sem.run_bind,run_indexAt_slice _ _ _ _ _ _ _ (elem_of ht),if_pos ⟨hj0,hj⟩,elem_eq ht,hi.sizeOf]
    simp [Addr.add_any,hsz]
   ·simp only [RV];exact ⟨b,o',by simp,h5⟩
theorem hd_indexAddr_mo {t el:Nat} {i:TyI} (ht:P.underlying t=some (.slice el)) (hi:TyOk P el i) {x y:Operand} (ho:o.op= .indexAddr t x y) {k:IntKind} {j:Int} (hy:e y= .d (.c (.int k j))) {n:Nat} (hx:e x= .mo n) {t' sz:Nat} {d0:List V} {es:List (List V)} (hst:st n=some (.row t' sz d0 es)) (hsz:sz=i.sz) (hj0:0≤j) (hj:j < es.length):
  HD P o e st nm (.oel n sz j.toNat 0) none:=HD.val fun B E ρ h1 h2=>by
 have hrx:=h1 x (by simp [Op.operands,ho])
 have hry:=h1 y (by simp [Op.operands,ho])
 rw [hx] at hrx
 rw [hy] at hry
 simp only [RV,RD] at hry hrx
 obtain ⟨hη,_⟩:=hrx
 obtain ⟨v0,us,g1,g2,_⟩:=h2 n _ hst
 rw [hη] at g1
 cases g1
 rcases g2.2 with ⟨_,h0⟩|⟨g,cap,cur,hv,_⟩
 ·rw [h0] at hj;simp at hj;omega
 ·refine ⟨.pointer (some ⟨g,j.toNat * sz,none⟩),?_,?_⟩
  ·simp only [execOp,ho,hv,hry]
   rw [Sem.run_bind,run_indexAt_slice _ _ _ _ _ _ _ (elem_of ht),if_pos ⟨hj0,hj⟩,elem_eq ht,hi.sizeOf]
   simp [Addr.add_any,hsz]
  ·simp only [RV];exact ⟨g,es.length,cap,by rw [hη,hv],by simp⟩
theorem hd_iop {G:Prop} {op:BinOp} {xt yt:Nat} {x y:Operand} (ho:o.op= .binOp op xt x y yt) {k:IntKind} {a b:Int} (hx:e x= .d (.c (.int k a))) (hy:e y= .d (.c (.int k b))) {K:HK} (h:iop G op k a b (fun v=>K v none)):∃ v,K v none∧(G→HD P o e st nm v none):=by
 have key:∀ (u:Value),(∀ w,(binOp op xt (.int k a) (.int k b)).run P w= .ok u w)→HD P o e st nm (.d (.c u)) none:=fun u hu=>HD.val fun B E ρ h1 h2=>by
  have hrx:=h1 x (by simp [Op.operands,ho])
  have hry:=h1 y (by simp [Op.operands,ho])
  rw [hx] at hrx
  rw [hy] at hry
  simp only [RV,RD] at hrx hry
  refine ⟨u,?_,by simp [RV,RD]⟩
  have hg:(eqGuard op xt x y (.int k a) (.int k b)).run P E.w= .ok () E.w:=by
   unfold eqGuard;cases op<;>simp
  simp [execOp,ho,hrx,hry,hg,hu]
 unfold iop at h
 cases op<;>simp only at h<;>first
  |exact h.elim
  |(refine ⟨_,h,fun _=>key _ fun w=>?_⟩;simp [binOp,Op.intArith,Op.intCmp];done)
  |(refine ⟨_,h,fun _=>key _ fun w=>?_⟩;simp [binOp,Op.intBits];done)
  |(refine ⟨_,h.2,fun hG=>key _ fun w=>?_⟩;simp [binOp,Op.intDiv,h.1 hG];done)
theorem hd_iop2 {G:Prop} {op:BinOp} {xt yt:Nat} {x y:Operand} (ho:o.op= .binOp op xt x y yt) {k k':IntKind} {a b:Int} (hx:e x= .d (.c (.int k a))) (hy:e y= .d (.c (.int k' b))) {K:HK} (h:iop2 G op k k' a b (fun v=>K v none)):∃ v,K v none∧(G→HD P o e st nm v none):=by
 have key:∀ (u:Value),(∀ w,(binOp op xt (.int k a) (.int k' b)).run P w= .ok u w)→HD P o e st nm (.d (.c u)) none:=fun u hu=>HD.val fun B E ρ h1 h2=>by
  have hrx:=h1 x (by simp [Op.operands,ho])
  have hry:=h1 y (by simp [Op.operands,ho])
  rw [hx] at hrx
  rw [hy] at hry
  simp only [RV,RD] at hrx hry
  refine ⟨u,?_,by simp [RV,RD]⟩
  have hg:(eqGuard op xt x y (.int k a) (.int k' b)).run P E.w= .ok () E.w:=by
   unfold eqGuard;cases op<;>simp
  simp [execOp,ho,hrx,hry,hg,hu]
 unfold iop2 at h
 split at h
 ·refine ⟨_,h.2,fun hG=>key _ fun w=>?_⟩
  have:=h.1 hG
  simp [binOp,Op.shift,show ¬ b < 0 by omega]
 ·refine ⟨_,h.2,fun hG=>key _ fun w=>?_⟩
  have:=h.1 hG
  simp [binOp,Op.shift,show ¬ b < 0 by omega]
 ·obtain ⟨rfl,h⟩:=h
  exact hd_iop ho hx hy h
theorem hd_not {t:Nat} {x:Operand} (ho:o.op= .unOp .not t x) {b:Bool} (hx:e x= .d (.c (.bool b))):HD P o e st nm (vB (!b)) none:=HD.val fun B E ρ h1 h2=>by
 have hrx:=h1 x (by simp [Op.operands,ho])
 rw [hx] at hrx
 simp only [RV,RD] at hrx
 exact ⟨.bool (!b),by simp [execOp,ho,hrx,Op.unary],by simp [RV,RD]⟩
theorem hd_len {c:Call} (ho:o.op= .call c) (hc:c.callee= .builtin .len) {t:Nat} {x:Operand} (hts:c.argTypes= #[t]) (has:c.args= #[x]) {el:Nat} (ht:P.underlying t=some (.slice el)) {sz:Nat} {d0:List D} {es:List (List D)} (hx:slOf (e x)=some (sz,d0,es)):
  HD P o e st nm (vI es.length) none:=HD.val fun B E ρ h1 h2=>by
 have hrx:=slOf_ok hx (h1 x (by simp [Op.operands,ho,Call.operands,hc,has]))
 simp only [RD] at hrx
 obtain ⟨a,cap,hv,_⟩:=hrx
 refine ⟨.int .i64 es.length,?_,by simp [RV,RD]⟩
 simp [execOp,ho,resolve,hc,has,hts,invoke,builtin,hv,run_len_slice _ _ _ _ _ _ (elem_of ht),goInt]
theorem RVL.of_forall {E:Env} {ρ:Operand→Value}:∀ (xs:List Operand),(∀ x∈xs,RV E (e x) (ρ x))→RVL E (xs.map e) (xs.map ρ)
 |[],_=>by simp [RVL]
 |x :: xs,h=>by
   simp only [List.map_cons,RVL]
   exact ⟨_,_,rfl,h x (by simp),RVL.of_forall xs (fun y hy=>h y (by simp [hy]))⟩
theorem run_callFunc {f:FuncId} (hf:(P.funcs[f]?).any (fun fn=>fn.name != "runtime.NumGoroutine" &&fn.body.isSome)=true) (args:Array Value) (w:World):(callFunc f args).run P w= .ok (.enter f args) w:=by
 cases h:P.funcs[f]? with
 |none=>rw [h] at hf;cases hf
 |some fn=>
   rw [h] at hf
   simp at hf
   obtain ⟨bd,hb⟩:=Option.isSome_iff_exists.1 hf.2
   unfold callFunc
   simp [run_program,h,hf.1,hb]
def CalleeIs (c:Call) (e:Operand→V) (f:FuncId):Prop:=c.callee= .value (.func f)∨∃ t,c.callee= .value (.tmp t)∧e (.tmp t)= .d (.c (.func (.func f) #[] #[]))
theorem callee_mem {o:Oper} {c:Call} {e:Operand→V} {f:FuncId} (ho:o.op= .call c) (hc:CalleeIs c e f) {x:Operand} (hx:x∈c.args.toList):x∈o.op.operands:=by
 rcases hc with hc|⟨t,hc,_⟩
 ·simp only [ho,Op.operands,Call.operands,hc];simp [Array.mem_toList_iff.1 hx]
 ·simp only [ho,Op.operands,Call.operands,hc];simp [Array.mem_toList_iff.1 hx]
theorem callee_run {P:Program} {o:Oper} {c:Call} {e:Operand→V} {f:FuncId} {E:Env} {ρ:Operand→Value} (ho:o.op= .call c) (hc:CalleeIs c e f) (hρ:∀ f,ρ (.func f)= .func (.func f) #[] #[]) (h1:∀ y∈o.op.operands,RV E (e y) (ρ y))
  (hf:(P.funcs[f]?).any (fun fn=>fn.name != "runtime.NumGoroutine" &&fn.body.isSome)=true):(execOp ρ o).run P E.w= .ok (.enter f (c.args.toList.map ρ).toArray) E.w:=by
 have hmap:c.args.map ρ=(c.args.toList.map ρ).toArray:=by rw [← Array.toList_map,Array.toArray_toList]
 rw [← hmap]
 rcases hc with hc|⟨t,hc,he⟩
 ·simp [execOp,ho,resolve,hc,hρ,Deferred.ofValue,invoke,run_callFunc hf]
 ·have ht:ρ (.tmp t)= .func (.func f) #[] #[]:=by
   have:=h1 (.tmp t) (by simp only [ho,Op.operands,Call.operands,hc];simp)
   rw [he] at this
   simpa only [RV,RD] using this
  simp [execOp,ho,resolve,hc,ht,Deferred.ofValue,invoke,run_callFunc hf]
theorem hd_call {c:Call} (ho:o.op= .call c) {f:FuncId} (hc:CalleeIs c e f) {asA:List A} {r:Ret} (has:toAs (c.args.toList.map e)=some asA) (hS:Spec P f asA r)
  (hf:(P.funcs[f]?).any (fun fn=>fn.name != "runtime.NumGoroutine" &&fn.body.isSome)=true):HD P o e st nm (ofRet r) none:=by
 intro B E ρ h1 hρ h2 hl hB hn
 have hargs:RVL E (c.args.toList.map e) (c.args.toList.map ρ):=RVL.of_forall _ (fun x hx=>h1 x (callee_mem ho hc hx))
 have hA:=toAs_ok has hargs
 have hrun:(execOp ρ o).run P E.w= .ok (.enter f (c.args.toList.map ρ).toArray) E.w:=callee_run ho hc hρ h1 hf
 rw [hrun]
 simp only [Upon]
 refine (hS E.F E.w _ hl hA).mono ?_
 rintro x w' ⟨v,F',rfl,hb,hF,hr⟩
 exact ⟨v,rfl,⟨E.η,F',w',E.dp⟩,rfl,⟨hb,fun _ _=>rfl,hF,rfl⟩,ofRet_ok (E:=⟨E.η,F',w',E.dp⟩) hr,rfl⟩
theorem hd_callO {c:Call} (ho:o.op= .call c) {f:FuncId} (hc:CalleeIs c e f) {asA:List A} {el sz:Nat} {d0:List D} {es:List (List D)} (has:toAs (c.args.toList.map e)=some asA) (hS:SpecO P f asA el sz d0 es)
  (hf:(P.funcs[f]?).any (fun fn=>fn.name != "runtime.NumGoroutine" &&fn.body.isSome)=true):HD P o e st nm (.mo nm) (some (.row el sz (dV d0) (es.map dV))):=by
 intro B E ρ h1 hρ h2 hl hB hn
 have hargs:RVL E (c.args.toList.map e) (c.args.toList.map ρ):=RVL.of_forall _ (fun x hx=>h1 x (callee_mem ho hc hx))
 have hA:=toAs_ok has hargs
 have hrun:(execOp ρ o).run P E.w= .ok (.enter f (c.args.toList.map ρ).toArray) E.w:=callee_run ho hc hρ h1 hf
 rw [hrun]
 simp only [Upon]
 refine (hS E.F E.w _ hl hA).mono ?_
 rintro x w' ⟨v,xs,rfl,hb',hown,hd,ho1,hln,hmax,hnew⟩
 have hform:∃ a l c,v= .slice a l c:=by
  rcases hown.2 with ⟨rfl,_⟩|⟨g,cap,cur,rfl,_⟩<;>exact ⟨_,_,_,rfl⟩
 let E':Env:=⟨fun k=>if k=nm then some v else E.η k,E.F,w',E.dp⟩
 have hη:E'.η nm=some v:=by simp [E']
 have hflat:(es.map dV).flatten=dV es.flatten:=by rw [show dV es.flatten=es.flatten.map .d from rfl,List.map_flatten];rfl
 refine ⟨v,rfl,E',rfl,⟨hb',fun n hn'=>by simp [E',hn'],⟨Ft.le_refl _,fun _ _ h=> .inl h,fun _ h=> .inl h⟩,rfl⟩,?_,v,hη,fun b hb1=>hnew b hb1,v,xs,hη,by rw [List.length_map];exact hown,by rw [hflat];exact RVL.of_data (E:=E') hd,fun x hx=>?_,ho1,by rw [List.length_map];exact hmax,fun b hb1=>?_⟩
 ·simp only [RV];exact ⟨hη,hform⟩
 ·obtain ⟨y,hy,rfl⟩:=List.mem_map.1 hx
  simp [dV,hln y hy]
 ·have hlt:b < w'.heap.size:=by
   rcases hown.2 with ⟨rfl,_⟩|⟨g,cap,cur,rfl,_,hg,_⟩
   ·cases hb1
   ·cases hb1
    exact (Array.getElem?_eq_some_iff.1 hg).1
  have h3:=hnew b hb1
  refine ⟨.inl (Nat.le_trans hB h3),hlt,fun hm=>?_,fun o hc'=>?_⟩
  ·have:=hl.2 b hm;omega
  ·have:=hl.1 b o hc';omega
end
section
theorem RA.mono {F G:Ft} {w w':World} (hl:F.le G) (hk:Kp F w w'):∀ (a:A) (v:Value),RA F w a v→RA G w' a v
 | .one x,v,h=>RD.mono hl hk x v h
 | .agg xs,v,⟨us,h1,h2,h3⟩=>⟨us,h1,RDL.mono hl hk xs us h2,h3⟩
theorem RAL.mono {F G:Ft} {w w':World} (hl:F.le G) (hk:Kp F w w'):∀ (a:List A) (v:List Value),RAL F w a v→RAL G w' a v
 |[],v,h=>h
 |x :: xs,v,h=>by
   simp only [RAL] at h ⊢
   obtain ⟨u,r,h1,h2,h3⟩:=h
   exact ⟨u,r,h1,RA.mono hl hk x u h2,RAL.mono hl hk xs r h3⟩
theorem RAL.append {F:Ft} {w:World}:∀ {a b:List A} {u v:List Value},RAL F w a u→RAL F w b v→RAL F w (a++b) (u++v)
 |[],b,u,v,h,k=>by simp only [RAL] at h;subst h;exact k
 |x :: xs,b,u,v,h,k=>by
   simp only [RAL] at h
   obtain ⟨y,r,rfl,h2,h3⟩:=h
   simp only [List.cons_append,RAL]
   exact ⟨y,r++v,rfl,h2,RAL.append h3 k⟩
def isCellB:Blk→Prop
 | .cells _ _=>True
 | .row _ _ _ _=>True
 |_=>False
def fzF (st:Nat→Option Blk) (E:Env):Ft:=⟨fun b o=>E.F.c b o∨∃ n x v,st n=some x∧isCellB x∧E.η n=some v∧hb v=some b,fun b=>E.F.m b∨∃ m q k zv z0 es,st m=some (.map q k zv z0 es)∧E.η m=some (.map (some b))⟩
variable {P:Program} {B:Base} {st:Nat→Option Blk} {E:Env}
theorem fz_le (st:Nat→Option Blk) (E:Env):E.F.le (fzF st E):=⟨fun _ _ h=> .inl h,fun _ h=> .inl h⟩
theorem fz_kp (E:Env):Kp E.F E.w E.w:=Kp.refl _ _
theorem fz_lt (h2:∀ n b,st n=some b→RBk P B E n b) (hl:E.F.lt E.w):(fzF st E).lt E.w:=by
 refine ⟨fun b o h=>?_,fun b h=>?_⟩
 ·rcases h with h|⟨n,x,v,h3,h4,h5,h6⟩
  ·exact hl.1 b o h
  ·have:=h2 n x h3
   cases x with
   |cells t cs=>obtain ⟨b',us,e1,_,_,_,hok⟩:=this;rw [e1] at h5;cases h5;cases h6;exact hok.2.1
   |row e sz d0 es=>obtain ⟨v',us,e1,_,_,_,_,_,hok⟩:=this;rw [e1] at h5;cases h5;exact (hok b h6).2.1
   |tok e sz len=>exact h4.elim
   |map q k zv z0 es=>exact h4.elim
   |loop L st pe=>exact h4.elim
   |raw b0 o0=>exact h4.elim
 ·rcases h with h|⟨m,q,k,zv,z0,es,h3,h4⟩
  ·exact hl.2 b h
  ·obtain ⟨b',ms,clock,e1,_,_,_,_,hok⟩:=h2 m _ h3
   rw [e1] at h4
   cases h4
   exact hok.2.1
theorem fzl_len:∀ {vs:List V} {ds:List D},FzL P st vs ds→vs.length=ds.length
 |[],[],_=>rfl
 |v :: vs,d :: ds,h=>by
   cases h with
   |cons h1 h2=>simp [fzl_len h2]
 |[],_ :: _,h=>by cases h
 |_ :: _,[],h=>by cases h
theorem fzll_len:∀ {vs:List (List V)} {ds:List (List D)},FzLL P st vs ds→vs.length=ds.length∧∀ sz,(∀ x∈vs,x.length=sz)→∀ y∈ds,y.length=sz
 |[],[],_=>⟨rfl,fun _ _ y hy=>by cases hy⟩
 |v :: vs,d :: ds,h=>by
   cases h with
   |cons h1 h2=>
     obtain ⟨i1,i2⟩:=fzll_len h2
     refine ⟨by simp [i1],fun sz hs y hy=>?_⟩
     rcases List.mem_cons.1 hy with rfl|hy
     ·rw [← fzl_len h1];exact hs v (by simp)
     ·exact i2 sz (fun x hx=>hs x (by simp [hx])) y hy
 |[],_ :: _,h=>by cases h
 |_ :: _,[],h=>by cases h
theorem RVL.split {xs ys:List V} {us:List Value} (h:RVL E (xs++ys) us):∃ u1 u2,us=u1++u2∧RVL E xs u1∧RVL E ys u2:=by
 refine ⟨us.take xs.length,us.drop xs.length,(List.take_append_drop _ _).symm,?_,?_⟩
 ·have:=h.take xs.length
  rwa [List.take_left' rfl] at this
 ·have:=h.drop xs.length
  rwa [List.drop_left' rfl] at this
mutual
theorem fz_ok (h2:∀ n b,st n=some b→RBk P B E n b):∀ {v:V} {d:D},Fz P st v d→∀ {u:Value},RV E v u→RD (fzF st E) E.w d u
 |_,_,.d h,u,hv=>RD.mono (fz_le st E) (fz_kp E) _ _ (toD_ok h hv)
 |_,_,.pt (n:=n) (cs:=cs) (ds:=ds) h1 h3,u,hv=>by
   simp only [RV] at hv
   obtain ⟨b,g1,rfl⟩:=hv
   obtain ⟨b',us,e1,e2,e3,e4,e5⟩:=h2 n _ h1
   rw [g1] at e1
   cases e1
   simp only [RD]
   refine ⟨b,0,us,rfl,fzl_ok h2 h3 e3,e4,fun j u hj=>⟨.inr ⟨n,_,_,h1,trivial,g1,rfl⟩,?_⟩⟩
   simp only [Nat.zero_add,World.cell?,e2]
   simpa using hj
 |_,_,.row (n:=n) (sz:=sz) (es:=es) (es':=es') h1 h3,u,hv=>by
   simp only [RV] at hv
   obtain ⟨v',us,e1,e2,e3,e4,e5,e6,e7⟩:=h2 n _ h1
   rw [hv.1] at e1
   cases e1
   obtain ⟨i1,i2⟩:=fzll_len h3
   obtain ⟨a,cap,rfl,hcap⟩:=own_form e2
   simp only [RD]
   refine ⟨a,cap,by rw [i1],by omega,by omega,?_⟩
   have hd:=fzll_ok h2 h3 e3
   rcases e2.2 with ⟨e8,h0⟩|⟨g,cap',cur,e8,_⟩
   ·have:es'=[]:=List.eq_nil_of_length_eq_zero (by omega)
    rw [this];simp [RR]
   ·cases e8
    refine RR.of_cells hd (i2 sz e4) e5 (fun j u hj=>⟨.inr ⟨n,_,_,h1,trivial,hv.1,rfl⟩,?_⟩)
    have:=e2.cells (g:=g) rfl j u hj
    rw [Addr.add_any] at this
    simpa using this
 |_,_,.mp (n:=n) (q:=q) (k:=k) (zv:=zv) (z0:=z0) (es:=es) (ds:=ds) h1 hcs h3 h4,u,hv=>by
   simp only [RV] at hv
   obtain ⟨b,ms,clock,g1,g2,g3,g4,g5,g6⟩:=h2 n _ h1
   rw [hv.1] at g1
   cases g1
   obtain ⟨i1,i2,i3⟩:=rmp_get g3
   have hln:=fzl_len h4
   simp only [List.length_map] at hln
   have hvs:RVL E (es.map (·.2)) (ms.toList.map (·.val)):=by
    have gen:∀ (es:List (List Int×V)) (ms:List MapEntry),ms.length=es.length→(∀ (i:Nat) e x,ms[i]? =some e→es[i]? =some x→RV E x.2 e.val)→RVL E (es.map (·.2)) (ms.map (·.val)):=fun es=>by
     induction es with
     |nil=>intro ms hm _;simp at hm;subst hm;simp [RVL]
     |cons x es ih=>
       intro ms hm h
       cases ms with
       |nil=>simp at hm
       |cons e ms=>
         simp only [List.map_cons,RVL]
         exact ⟨_,_,rfl,h 0 e x rfl rfl,ih ms (by simpa using hm) fun i e' x' h1 h2=>h (i+1) e' x' (by simpa using h1) (by simpa using h2)⟩
    exact gen es ms.toList i1 i3
   simp only [RD]
   refine ⟨fz_ok h2 h3 g5.1,by rw [hcs,List.length_map,hln],.inr ⟨b,ms,clock,rfl,.inr ⟨n,q,k,zv,z0,es,h1,hv.1⟩,g2,by rw [hcs];exact i2,by rw [hcs];exact g4,fzl_ok h2 h4 hvs⟩⟩
 |_,_,.ag h1,u,hv=>by
   simp only [RV] at hv
   obtain ⟨us,rfl,e2,e3⟩:=hv
   simp only [RD]
   exact ⟨us,rfl,fzl_ok h2 h1 e2,e3⟩
 |_,_,.fn (f:=f) (capA:=capA) h1 hn h3,u,hv=>by
   simp only [RV] at hv
   obtain ⟨us,rfl,e2⟩:=hv
   have hc:=fza_ok h2 h1 e2
   simp only [RD]
   refine ⟨rfl,FnR.stab,f,#[],us.toArray,rfl,hn,fun G w' asA r hG hK hlt hφ us' hus=>?_⟩
   have:=h3 asA r hφ G w' (us'++us) hlt (hus.append (RAL.mono hG hK _ _ hc))
   simpa using this
 |_,_,.fm (f:=f) (fstA:=fstA) h1 hn h3,u,hv=>by
   simp only [RV] at hv
   obtain ⟨us,rfl,e2⟩:=hv
   have hc:=fza_ok h2 h1 e2
   simp only [RD]
   refine ⟨rfl,FnR.stab,f,us.toArray,#[],rfl,hn,fun G w' asA r hG hK hlt hφ us' hus=>?_⟩
   have:=h3 asA r hφ G w' (us++us') hlt ((RAL.mono hG hK _ _ hc).append hus)
   simpa using this
 |_,_,.fc (f:=f) hn h3,u,hv=>by
   simp only [RV,RD] at hv
   subst hv
   simp only [RD]
   refine ⟨rfl,FnR.stab,f,#[],#[],rfl,hn,fun G w' asA r hG hK hlt hφ us' hus=>?_⟩
   have:=h3 asA r hφ G w' us' hlt hus
   simpa using this
theorem fzl_ok (h2:∀ n b,st n=some b→RBk P B E n b):∀ {vs:List V} {ds:List D},FzL P st vs ds→∀ {us:List Value},RVL E vs us→RDL (fzF st E) E.w ds us
 |_,_,.nil,us,hv=>by simp only [RVL] at hv;simp [RDL,hv]
 |_,_,.cons h1 h3,us,hv=>by
   simp only [RVL] at hv
   obtain ⟨u,r,rfl,e1,e2⟩:=hv
   simp only [RDL]
   exact ⟨u,r,rfl,fz_ok h2 h1 e1,fzl_ok h2 h3 e2⟩
theorem fzll_ok (h2:∀ n b,st n=some b→RBk P B E n b):∀ {vs:List (List V)} {ds:List (List D)},FzLL P st vs ds→∀ {us:List Value},RVL E vs.flatten us→RDL (fzF st E) E.w ds.flatten us
 |_,_,.nil,us,hv=>by simp only [List.flatten_nil,RVL] at hv;simp [RDL,hv]
 |_,_,.cons h1 h3,us,hv=>by
   simp only [List.flatten_cons] at hv ⊢
   obtain ⟨u1,u2,rfl,e1,e2⟩:=RVL.split hv
   exact RDL.append (fzl_ok h2 h1 e1) (fzll_ok h2 h3 e2)
theorem fza_ok (h2:∀ n b,st n=some b→RBk P B E n b):∀ {vs:List V} {asA:List A},FzA P st vs asA→∀ {us:List Value},RVL E vs us→RAL (fzF st E) E.w asA us
 |_,_,.nil,us,hv=>by simp only [RVL] at hv;simp [RAL,hv]
 |_,_,.one h1 h3,us,hv=>by
   simp only [RVL] at hv
   obtain ⟨u,r,rfl,e1,e2⟩:=hv
   exact ⟨u,r,rfl,fz_ok h2 h1 e1,fza_ok h2 h3 e2⟩
 |_,_,.agg h1 h3,us,hv=>by
   simp only [RVL] at hv
   obtain ⟨u,r,rfl,e1,e2⟩:=hv
   simp only [RV] at e1
   obtain ⟨us1,rfl,e3,e4⟩:=e1
   exact ⟨_,r,rfl,⟨us1,rfl,fzl_ok h2 h1 e3,e4⟩,fza_ok h2 h3 e2⟩
end
theorem plDs_ok {F G:Ft} {w w':World}:∀ {ds:List D} {us:List Value},ds.all plD=true→RDL F w ds us→RDL G w' ds us
 |[],us,_,h=>by simp only [RDL] at h ⊢;exact h
 |d :: ds,us,hp,h=>by
   simp only [List.all_cons,Bool.and_eq_true] at hp
   simp only [RDL] at h ⊢
   obtain ⟨u,r,h1,h2,h3⟩:=h
   refine ⟨u,r,h1,?_,plDs_ok hp.2 h3⟩
   cases d<;>simp [plD] at hp
   simpa only [RD] using h2
theorem plA_ok {F G:Ft} {w w':World} {a:A} {v:Value} (hp:plA a=true) (h:RA F w a v):RA G w' a v:=by
 cases a with
 |one d=>cases d<;>simp [plA,plD] at hp;simpa only [RA,RD] using h
 |agg ds=>obtain ⟨us,h1,h2,h3⟩:=h;exact ⟨us,h1,plDs_ok hp h2,h3⟩
theorem plAs_ok {F G:Ft} {w w':World}:∀ {l:List A} {us:List Value},l.all plA=true→RAL F w l us→RAL G w' l us
 |[],us,_,h=>h
 |a :: l,us,hp,h=>by
   simp only [List.all_cons,Bool.and_eq_true] at hp
   obtain ⟨u,r,h1,h2,h3⟩:=h
   exact ⟨u,r,h1,plA_ok hp.1 h2,plAs_ok hp.2 h3⟩
theorem plR_ok {F G:Ft} {w w':World} {r:Ret} {v:Value} (hp:plR r=true) (h:RRet F w r v):RRet G w' r v:=by
 cases r with
 |r1 a=>exact plA_ok hp h
 |rt l=>obtain ⟨us,h1,h2⟩:=h;exact ⟨us,h1,plAs_ok hp h2⟩
theorem hd_callX {o:Oper} {e:Operand→V} {nm:Nat} {c:Call} (ho:o.op= .call c) {f:FuncId} (hc:CalleeIs c e f) {asA:List A} {r:Ret} (has:FzA P st (c.args.toList.map e) asA) (hS:Spec P f asA r) (hp:plR r=true)
  (hf:(P.funcs[f]?).any (fun fn=>fn.name != "runtime.NumGoroutine" &&fn.body.isSome)=true):HD P o e st nm (ofRet r) none:=by
 intro B E ρ h1 hρ h2 hl hB hn
 have hargs:RVL E (c.args.toList.map e) (c.args.toList.map ρ):=RVL.of_forall _ (fun x hx=>h1 x (callee_mem ho hc hx))
 have hA:=fza_ok h2 has hargs
 have hrun:(execOp ρ o).run P E.w= .ok (.enter f (c.args.toList.map ρ).toArray) E.w:=callee_run ho hc hρ h1 hf
 rw [hrun]
 simp only [Upon]
 refine (hS _ E.w _ (fz_lt h2 hl) hA).mono ?_
 rintro x w' ⟨v,F',rfl,hb,hF,hr⟩
 exact ⟨v,rfl,⟨E.η,E.F,w',E.dp⟩,rfl,⟨hb,fun _ _=>rfl,⟨Ft.le_refl _,fun _ _ h=> .inl h,fun _ h=> .inl h⟩,rfl⟩,ofRet_ok (E:=⟨E.η,E.F,w',E.dp⟩) (plR_ok hp hr),rfl⟩
theorem plRDL {F G:Ft} {w w':World}:∀ {ds:List D} {us:List Value},ds.all plD=true→RDL F w ds us→RDL G w' ds us
 |[],us,_,h=>by simp only [RDL] at h ⊢;exact h
 |d :: ds,us,hp,h=>by
   simp only [List.all_cons,Bool.and_eq_true] at hp
   simp only [RDL] at h ⊢
   obtain ⟨u,r,h1,h2,h3⟩:=h
   refine ⟨u,r,h1,?_,plRDL hp.2 h3⟩
   cases d with
   |c v=>simpa only [RD] using h2
   |_=>simp [plD] at hp
theorem hd_callOX {o:Oper} {e:Operand→V} {nm:Nat} {c:Call} (ho:o.op= .call c) {f:FuncId} (hc:CalleeIs c e f) {asA:List A} {el sz:Nat} {d0:List D} {es:List (List D)} (has:FzA P st (c.args.toList.map e) asA) (hS:SpecO P f asA el sz d0 es) (hp:es.flatten.all plD=true)
  (hf:(P.funcs[f]?).any (fun fn=>fn.name != "runtime.NumGoroutine" &&fn.body.isSome)=true):HD P o e st nm (.mo nm) (some (.row el sz (dV d0) (es.map dV))):=by
 intro B E ρ h1 hρ h2 hl hB hn
 have hargs:RVL E (c.args.toList.map e) (c.args.toList.map ρ):=RVL.of_forall _ (fun x hx=>h1 x (callee_mem ho hc hx))
 have hA:=fza_ok h2 has hargs
 have hrun:(execOp ρ o).run P E.w= .ok (.enter f (c.args.toList.map ρ).toArray) E.w:=callee_run ho hc hρ h1 hf
 rw [hrun]
 simp only [Upon]
 refine (hS _ E.w _ (fz_lt h2 hl) hA).mono ?_
 rintro x w' ⟨v,xs,rfl,hb',hown,hd,ho1,hln,hmax,hnew⟩
 have hform:∃ a l c,v= .slice a l c:=by
  rcases hown.2 with ⟨rfl,_⟩|⟨g,cap,cur,rfl,_⟩<;>exact ⟨_,_,_,rfl⟩
 let E':Env:=⟨fun k=>if k=nm then some v else E.η k,E.F,w',E.dp⟩
 have hη:E'.η nm=some v:=by simp [E']
 have hflat:(es.map dV).flatten=dV es.flatten:=by rw [show dV es.flatten=es.flatten.map .d from rfl,List.map_flatten];rfl
 refine ⟨v,rfl,E',rfl,⟨hb',fun n hn'=>by simp [E',hn'],⟨Ft.le_refl _,fun _ _ h=> .inl h,fun _ h=> .inl h⟩,rfl⟩,?_,v,hη,fun b hb1=>hnew b hb1,v,xs,hη,by rw [List.length_map];exact hown,by rw [hflat];exact RVL.of_data (E:=E') (plRDL hp hd),fun x hx=>?_,ho1,by rw [List.length_map];exact hmax,fun b hb1=>?_⟩
 ·simp only [RV];exact ⟨hη,hform⟩
 ·obtain ⟨y,hy,rfl⟩:=List.mem_map.1 hx
  simp [dV,hln y hy]
 ·have hlt:b < w'.heap.size:=by
   rcases hown.2 with ⟨rfl,_⟩|⟨g,cap,cur,rfl,_,hg,_⟩
   ·cases hb1
   ·cases hb1
    exact (Array.getElem?_eq_some_iff.1 hg).1
  have h3:=hnew b hb1
  refine ⟨.inl (Nat.le_trans hB h3),hlt,fun hm=>?_,fun o hc'=>?_⟩
  ·have:=hl.2 b hm;omega
  ·have:=hl.1 b o hc';omega
end

section
variable {P:Program} {T:Tab} {G:Prop} {o:Oper} {e:Operand→V} {st:Nat→Option Blk} {nm:Nat} {K:HK}
abbrev Ok (P:Program) (G:Prop) (o:Oper) (e:Operand→V) (st:Nat→Option Blk) (nm:Nat) (K:HK):Prop:=∃ v x,K v x∧(G→HD P o e st nm v x)
theorem Ok.of_none (h:∃ v,K v none∧(G→HD P o e st nm v none)):Ok P G o e st nm K:=by
 obtain ⟨v,h1,h2⟩:=h;exact ⟨v,none,h1,h2⟩
theorem ok_ld {t:Nat} {i:TyI} (hi:TyOk P t i) {x:Operand} (ho:o.op= .load t x) (h:ldV G st i K (e x)):Ok P G o e st nm K:=by
 refine Ok.of_none ?_
 generalize hx:e x=y at h
 unfold ldV at h
 split at h<;>try exact h.elim
 ·split at h<;>try exact h.elim
  rename_i hst
  exact hd_load_ptr hi ho hx hst h
 ·exact hd_load_elt hi ho hx h.1 h.2
 ·split at h<;>try exact h.elim
  rename_i hst
  obtain ⟨rfl,h1,h2⟩:=h
  exact hd_load_oel hi ho hx hst h1 h2
 ·exact hd_load_pt hi ho hx h
theorem ok_ix {t el:Nat} {i:TyI} (ht:P.underlying t=some (.slice el)) (hi:TyOk P el i) {x y:Operand} (ho:o.op= .indexAddr t x y) (h:ixK G st i.sz K (e x) (e y)):Ok P G o e st nm K:=by
 refine Ok.of_none ?_
 generalize hx:e x=u at h
 generalize hy:e y=v at h
 unfold ixK at h
 split at h<;>try exact h.elim
 ·split at h<;>try exact h.elim
  rename_i hst
  exact ⟨_,h.2.2,fun hG=>hd_indexAddr_mo ht hi ho hy hx hst h.1 (h.2.1 hG).1 (h.2.1 hG).2⟩
 ·exact ⟨_,h.2.2,fun hG=>hd_indexAddr_sl ht hi ho hy (by rw [hx];rfl) h.1 (h.2.1 hG).1 (h.2.1 hG).2⟩
 ·exact ⟨_,h.2.2,fun hG=>hd_indexAddr_sl ht hi ho hy (by rw [hx];rfl) h.1 (h.2.1 hG).1 (h.2.1 hG).2⟩
theorem icells_ok {E:Env}:∀ {xs:List V} {a:List Int} {us:List Value},icells xs=some a→RVL E xs us→us=a.map (Value.int .i64)
 |[],a,us,h,hu=>by simp [icells] at h;subst h;simp only [RVL] at hu;simp [hu]
 |x :: xs,a,us,h,hu=>by
   unfold icells at h
   split at h
   ·rename_i heq;cases heq
   ·rename_i n l heq
    cases heq
    cases hq:icells xs with
    |none=>rw [hq] at h;cases h
    |some b=>
      rw [hq] at h
      simp only [Option.map_some,Option.some.injEq] at h
      subst h
      simp only [RVL,RV,RD] at hu
      obtain ⟨u,r,rfl,rfl,h3⟩:=hu
      rw [icells_ok hq h3]
      rfl
   ·cases h
theorem nilmap_run (w:World) {xt k el:Nat} (ht:P.underlying xt=some (.map k el)) (x y:Operand) (m:Option Nat) {op:BinOp} (h:op= .eql∨op= .neq):
  (do eqGuard op xt x y (.map m) (.map none);binOp op xt (.map m) (.map none):Sem Value).run P w= .ok (.bool (if op= .eql then m.isNone else !m.isNone)) w:=by
 have he:(Op.equal xt (.map m) (.map none)).run P w= .ok m.isNone w:=by
  have gen:∀ d,(Op.equalIn (d+1) xt (.map m) (.map none)).run P w= .ok m.isNone w:=fun d=>by cases m<;>simp [Op.equalIn,run_underlying ht]
  exact gen 9999
 have hg:(eqGuard op xt x y (.map m) (.map none)).run P w= .ok () w:=by unfold eqGuard;rcases h with rfl|rfl<;>simp
 rcases h with rfl|rfl<;>simp only [Sem.run_bind,hg,Result.andThen_ok]<;>simp [binOp,he]
theorem hd_nilmap {xt k el yt:Nat} (ht:P.underlying xt=some (.map k el)) {op:BinOp} {x y:Operand} (ho:o.op= .binOp op xt x y yt) {b:Bool} {X:V} (hx:e x=X) (hX:∀ E v,RV E X v→∃ m:Option Nat,v= .map m∧m.isNone=b) (hy:e y= .d (.c (.map none))) (hK:eqop b (fun v=>K v none) op):∃ v,K v none∧HD P o e st nm v none:=by
 have key:(op= .eql∨op= .neq)→HD P o e st nm (vB (if op= .eql then b else !b)) none:=fun hop=>HD.val fun B E ρ h1 h2=>by
  have h3:=h1 x (by simp [Op.operands,ho])
  have h4:=h1 y (by simp [Op.operands,ho])
  rw [hx] at h3
  rw [hy] at h4
  obtain ⟨m,e1,e2⟩:=hX E _ h3
  simp only [RV,RD] at h4
  refine ⟨.bool (if op= .eql then b else !b),?_,by simp only [RV,RD]⟩
  simp only [execOp,ho,e1,h4,Sem.run_bind]
  have:=nilmap_run (P:=P) E.w ht x y m hop
  simp only [Sem.run_bind] at this
  rw [this,e2]
  rfl
 unfold eqop at hK
 split at hK<;>try exact hK.elim
 ·exact ⟨_,hK,by simpa using key (.inl rfl)⟩
 ·exact ⟨_,hK,by simpa using key (.inr rfl)⟩
theorem kcells_ok {E:Env}:∀ {xs:List V} {a:List (IntKind×Int)} {us:List Value},kcells xs=some a→RVL E xs us→us=kvals a
 |[],a,us,h,hu=>by simp [kcells] at h;subst h;simp only [RVL] at hu;simp [hu,kvals]
 |x :: xs,a,us,h,hu=>by
   unfold kcells at h
   split at h
   ·rename_i heq;cases heq
   ·rename_i k n l heq
    cases heq
    cases hq:kcells xs with
    |none=>rw [hq] at h;cases h
    |some b=>
      rw [hq] at h
      simp only [Option.map_some,Option.some.injEq] at h
      subst h
      simp only [RVL,RV,RD] at hu
      obtain ⟨u,r,rfl,rfl,h3⟩:=hu
      rw [kcells_ok hq h3]
      rfl
   ·cases h
theorem nilptr_run (w:World) {xt:Nat} (ht:PtrTy P xt) (x y:Operand) (m:Option Addr) {op:BinOp} (h:op= .eql∨op= .neq):
  (do eqGuard op xt x y (.pointer m) (.pointer none);binOp op xt (.pointer m) (.pointer none):Sem Value).run P w= .ok (.bool (if op= .eql then m.isNone else !m.isNone)) w:=by
 obtain ⟨el,ht⟩:=ht
 have he:(Op.equal xt (.pointer m) (.pointer none)).run P w= .ok m.isNone w:=by
  have gen:∀ d,(Op.equalIn (d+1) xt (.pointer m) (.pointer none)).run P w= .ok m.isNone w:=fun d=>by cases m<;>simp [Op.equalIn,run_underlying ht]
  exact gen 9999
 have hg:(eqGuard op xt x y (.pointer m) (.pointer none)).run P w= .ok () w:=by unfold eqGuard;rcases h with rfl|rfl<;>simp
 rcases h with rfl|rfl<;>simp only [Sem.run_bind,hg,Result.andThen_ok]<;>simp [binOp,he]
theorem hd_nilptr {xt yt:Nat} (ht:PtrTy P xt) {op:BinOp} {x y:Operand} (ho:o.op= .binOp op xt x y yt) {b:Bool} {X:V} (hx:e x=X) (hX:∀ E v,RV E X v→∃ m:Option Addr,v= .pointer m∧m.isNone=b) (hy:e y= .d (.c (.pointer none))) (hK:eqop b (fun v=>K v none) op):∃ v,K v none∧HD P o e st nm v none:=by
 have key:(op= .eql∨op= .neq)→HD P o e st nm (vB (if op= .eql then b else !b)) none:=fun hop=>HD.val fun B E ρ h1 h2=>by
  have h3:=h1 x (by simp [Op.operands,ho])
  have h4:=h1 y (by simp [Op.operands,ho])
  rw [hx] at h3
  rw [hy] at h4
  obtain ⟨m,e1,e2⟩:=hX E _ h3
  simp only [RV,RD] at h4
  refine ⟨.bool (if op= .eql then b else !b),?_,by simp only [RV,RD]⟩
  simp only [execOp,ho,e1,h4,Sem.run_bind]
  have:=nilptr_run (P:=P) E.w ht x y m hop
  simp only [Sem.run_bind] at this
  rw [this,e2]
  rfl
 unfold eqop at hK
 split at hK<;>try exact hK.elim
 ·exact ⟨_,hK,by simpa using key (.inl rfl)⟩
 ·exact ⟨_,hK,by simpa using key (.inr rfl)⟩
theorem str_bin {xt yt:Nat} {op:BinOp} {x y:Operand} (ho:o.op= .binOp op xt x y yt) {a b:ByteArray} (hx:e x= .d (.c (.string a))) (hy:e y= .d (.c (.string b))) (hK:strop a b (fun v=>K v none) op):∃ v,K v none∧HD P o e st nm v none:=by
 have key:∀ (r:Bool),(∀ w,(binOp op xt (.string a) (.string b)).run P w= .ok (.bool r) w)→HD P o e st nm (vB r) none:=fun r hr=>HD.val fun B E ρ h1 h2=>by
  have h3:=h1 x (by simp [Op.operands,ho])
  have h4:=h1 y (by simp [Op.operands,ho])
  rw [hx] at h3
  rw [hy] at h4
  simp only [RV,RD] at h3 h4
  refine ⟨.bool r,?_,by simp [RV,RD]⟩
  have hg:(eqGuard op xt x y (.string a) (.string b)).run P E.w= .ok () E.w:=by unfold eqGuard;cases op<;>simp
  simp [execOp,ho,h3,h4,hg,hr]
 unfold strop at hK
 split at hK<;>try exact hK.elim
 ·exact ⟨_,hK,key _ fun w=>by simp [binOp_string_eql]⟩
 ·exact ⟨_,hK,key _ fun w=>by simp [binOp_string_neq]⟩
 ·exact ⟨_,hK,key _ fun w=>by simp [binOp_string_lss]⟩
theorem ok_bin (hT:TabOk P T) {op:BinOp} {xt yt:Nat} {x y:Operand} (ho:o.op= .binOp op xt x y yt) (h:binK P T op xt G (fun v=>K v none) (e x) (e y)):Ok P G o e st nm K:=by
 refine Ok.of_none ?_
 generalize hx:e x=u at h
 generalize hy:e y=v at h
 unfold binK at h
 split at h<;>try exact h.elim
 ·exact hd_iop2 ho hx hy h
 ·rename_i a b
  split at h<;>try exact h.elim
  rename_i sz z bt hty
  have ht:P.underlying xt=some .bool:=(ty_ok hT hty).2
  have key:∀ (r:Bool),(∀ w,(binOp op xt (.bool a) (.bool b)).run P w= .ok (.bool r) w)→HD P o e st nm (vB r) none:=fun r hr=>HD.val fun B E ρ h1 h2=>by
   have h3:=h1 x (by simp [Op.operands,ho])
   have h4:=h1 y (by simp [Op.operands,ho])
   rw [hx] at h3
   rw [hy] at h4
   simp only [RV,RD] at h3 h4
   refine ⟨.bool r,?_,by simp [RV,RD]⟩
   have hg:(eqGuard op xt x y (.bool a) (.bool b)).run P E.w= .ok () E.w:=by unfold eqGuard;cases op<;>simp
   simp [execOp,ho,h3,h4,hg,hr]
  unfold eqop at h
  split at h<;>try exact h.elim
  ·exact ⟨_,h,fun _=>key _ fun w=>run_eql_bool w xt a b ht⟩
  ·refine ⟨_,h,fun _=>key _ fun w=>?_⟩
   have:=run_eql_bool w xt a b ht
   simp only [binOp,Sem.run_bind] at this ⊢
   cases hq:(Op.equal xt (.bool a) (.bool b)).run P w with
   |ok r w'=>rw [hq] at this;simp only [Result.andThen_ok,Sem.run_pure,Result.ok.injEq,Value.bool.injEq] at this ⊢;exact ⟨by rw [this.1],this.2⟩
   |halt q w'=>rw [hq] at this;cases this
 ·split at h
  rotate_left
  ·split at h<;>try exact h.elim
   rename_i a b ha hb
   obtain ⟨⟨hl,hE⟩,h⟩:=h
   have key:(op= .eql∨op= .neq)→HD P o e st nm (vB (if op= .eql then a==b else !(a==b))) none:=fun hop=>HD.val fun B E ρ h1 h2=>by
    have h3:=h1 x (by simp [Op.operands,ho])
    have h4:=h1 y (by simp [Op.operands,ho])
    rw [hx] at h3
    rw [hy] at h4
    simp only [RV] at h3 h4
    obtain ⟨us,e1,e2,_⟩:=h3
    obtain ⟨vs,e3,e4,_⟩:=h4
    rw [kcells_ok ha e2] at e1
    rw [kcells_ok hb e4] at e3
    refine ⟨.bool (if op= .eql then a==b else !(a==b)),?_,by simp only [RV,RD]⟩
    simp only [execOp,ho,e1,e3,Sem.run_bind]
    have:=hE E.w x y a b rfl hl.symm op hop
    simp only [Sem.run_bind] at this
    rw [this]
    rfl
   unfold eqop at h
   split at h<;>try exact h.elim
   ·exact ⟨_,h,fun _=>by simpa using key (.inl rfl)⟩
   ·exact ⟨_,h,fun _=>by simpa using key (.inr rfl)⟩
  rename_i a b ha hb
  obtain ⟨⟨hl,hE⟩,h⟩:=h
  have key:(op= .eql∨op= .neq)→HD P o e st nm (vB (if op= .eql then a==b else !(a==b))) none:=fun hop=>HD.val fun B E ρ h1 h2=>by
   have h3:=h1 x (by simp [Op.operands,ho])
   have h4:=h1 y (by simp [Op.operands,ho])
   rw [hx] at h3
   rw [hy] at h4
   simp only [RV] at h3 h4
   obtain ⟨us,e1,e2,_⟩:=h3
   obtain ⟨vs,e3,e4,_⟩:=h4
   rw [icells_ok ha e2] at e1
   rw [icells_ok hb e4] at e3
   refine ⟨.bool (if op= .eql then a==b else !(a==b)),?_,by simp only [RV,RD]⟩
   simp only [execOp,ho,e1,e3,Sem.run_bind]
   have:=hE E.w x y a b rfl hl.symm op hop
   simp only [Sem.run_bind] at this
   rw [this]
   rfl
  unfold eqop at h
  split at h<;>try exact h.elim
  ·exact ⟨_,h,fun _=>by simpa using key (.inl rfl)⟩
  ·exact ⟨_,h,fun _=>by simpa using key (.inr rfl)⟩
 ·split at h<;>try exact h.elim
  rename_i hty
  obtain ⟨v,h1,h2⟩:=str_bin (st:=st) (nm:=nm) ho hx hy h
  exact ⟨v,h1,fun _=>h2⟩
 ·obtain ⟨v,h1,h2⟩:=hd_nilptr (st:=st) (nm:=nm) h.1 ho hx (fun E v hv=>by simp only [RV] at hv;obtain ⟨b,_,rfl⟩:=hv;exact ⟨_,rfl,rfl⟩) hy h.2
  exact ⟨v,h1,fun _=>h2⟩
 ·obtain ⟨v,h1,h2⟩:=hd_nilptr (st:=st) (nm:=nm) h.1 ho hx (fun E v hv=>by simp only [RV,RD] at hv;obtain ⟨b,o',us,rfl,_⟩:=hv;exact ⟨_,rfl,rfl⟩) hy h.2
  exact ⟨v,h1,fun _=>h2⟩
 ·obtain ⟨v,h1,h2⟩:=hd_nilptr (st:=st) (nm:=nm) h.1 ho hx (fun E v hv=>by simp only [RV,RD] at hv;exact ⟨_,hv,rfl⟩) hy h.2
  exact ⟨v,h1,fun _=>h2⟩
 ·split at h<;>try exact h.elim
  rename_i hty
  obtain ⟨v,h1,h2⟩:=hd_nilmap (st:=st) (nm:=nm) (ty_ok hT hty).2 ho hx (fun E v hv=>by simp only [RV] at hv;obtain ⟨_,b,rfl⟩:=hv;exact ⟨_,rfl,rfl⟩) hy h
  exact ⟨v,h1,fun _=>h2⟩
 ·split at h<;>try exact h.elim
  rename_i hty
  obtain ⟨v,h1,h2⟩:=hd_nilmap (st:=st) (nm:=nm) (ty_ok hT hty).2 ho hx (fun E v hv=>by simp only [RV,RD] at hv;exact ⟨_,hv,rfl⟩) hy h
  exact ⟨v,h1,fun _=>h2⟩
theorem ok_not {t:Nat} {x:Operand} (ho:o.op= .unOp .not t x) (h:notK K (e x)):Ok P G o e st nm K:=by
 refine Ok.of_none ?_
 generalize hx:e x=u at h
 unfold notK at h
 split at h<;>try exact h.elim
 exact ⟨_,h,fun _=>hd_not ho hx⟩
theorem hd_pick {c x y:Operand} (ho:o.op= .pick c x y) {b p q:Bool} (hc:e c= .d (.c (.bool b))) (hp:b=true→∀ E v,RV E (e x) v→v= .bool p) (hq:b=false→∀ E v,RV E (e y) v→v= .bool q):HD P o e st nm (vB (pickV b p q)) none:=HD.val fun B E ρ h1 h2=>by
 have h3:=h1 c (by simp [Op.operands,ho])
 have h4:=h1 x (by simp [Op.operands,ho])
 have h5:=h1 y (by simp [Op.operands,ho])
 rw [hc] at h3
 simp only [RV,RD] at h3
 cases b with
 |true=>exact ⟨.bool p,by simp [execOp,ho,h3,asBool,hp rfl _ _ h4],by simp [RV,RD,pickV]⟩
 |false=>exact ⟨.bool q,by simp [execOp,ho,h3,asBool,hq rfl _ _ h5],by simp [RV,RD,pickV]⟩
theorem hd_pick' {c x y:Operand} (ho:o.op= .pick c x y) {b p q:Bool} (hc:∀ E v,RV E (e c) v→v= .bool b) (hp:b=true→∀ E v,RV E (e x) v→v= .bool p) (hq:b=false→∀ E v,RV E (e y) v→v= .bool q):HD P o e st nm (vB (pickV b p q)) none:=HD.val fun B E ρ h1 h2=>by
 have h3:=hc _ _ (h1 c (by simp [Op.operands,ho]))
 have h4:=h1 x (by simp [Op.operands,ho])
 have h5:=h1 y (by simp [Op.operands,ho])
 cases b with
 |true=>exact ⟨.bool p,by simp [execOp,ho,h3,asBool,hp rfl _ _ h4],by simp [RV,RD,pickV]⟩
 |false=>exact ⟨.bool q,by simp [execOp,ho,h3,asBool,hq rfl _ _ h5],by simp [RV,RD,pickV]⟩
theorem ok_pick {c x y:Operand} (ho:o.op= .pick c x y) (h:pickK G K (e c) (e x) (e y)):Ok P G o e st nm K:=by
 refine Ok.of_none ?_
 generalize hc:e c=b at h
 generalize hx:e x=u at h
 generalize hy:e y=v at h
 have lit:∀ {z:Operand} {p:Bool},e z= .d (.c (.bool p))→∀ E v,RV E (e z) v→v= .bool p:=fun hz E v hv=>by rw [hz] at hv;simpa only [RV,RD] using hv
 have cnd:∀ {z:Operand} {p g:Bool},e z= .cond g (.d (.c (.bool p)))→g=true→∀ E v,RV E (e z) v→v= .bool p:=fun hz hg E v hv=>by rw [hz] at hv;simp only [RV,RD] at hv;exact hv.1 hg
 unfold pickK at h
 split at h<;>try exact h.elim
 ·exact ⟨_,h,fun _=>hd_pick ho hc (fun _=>lit hx) (fun _=>lit hy)⟩
 ·exact ⟨_,h.2,fun hG=>hd_pick ho hc (fun hb=>cnd hx (h.1 hG hb)) (fun _=>lit hy)⟩
 ·exact ⟨_,h.2,fun hG=>hd_pick ho hc (fun _=>lit hx) (fun hb=>cnd hy (h.1 hG hb))⟩
theorem ok_ex {x:Operand} {i:Nat} (ho:o.op= .extract x i) (h:exK i K (e x)):Ok P G o e st nm K:=by
 refine Ok.of_none ?_
 generalize hx:e x=u at h
 unfold exK at h
 split at h<;>try exact h.elim
 split at h<;>try exact h.elim
 rename_i hi
 exact ⟨_,h,fun _=>hd_extract ho hx hi⟩
theorem ok_cv {s t:Nat} {j:TyI} {k:IntKind} (hs:TyOk P s j) (ht:P.underlying t=some (.int k)) {x:Operand} (ho:o.op= .convert s t x) (h:cvK k K (e x)):Ok P G o e st nm K:=by
 refine Ok.of_none ?_
 generalize hx:e x=u at h
 unfold cvK at h
 split at h<;>try exact h.elim
 rename_i k' n
 refine ⟨_,h,fun _=>HD.val fun B E ρ h1 h2=>?_⟩
 have h3:=h1 x (by simp [Op.operands,ho])
 rw [hx] at h3
 simp only [RV,RD] at h3
 obtain ⟨d,hd,_⟩:=hs.row
 have hk:P.intKind t=k:=by simp [Program.intKind,ht]
 refine ⟨.int k (k.wrap n),?_,by simp only [RV,RD]⟩
 simp only [execOp,ho,h3,Sem.run_bind]
 rw [run_convert_int _ _ _ _ _ (by rw [hd];rfl) (by rw [hk];exact ht),hk]
 rfl
theorem u8s_ok {F:Ft} {w:World}:∀ {es:List (List D)} {ns:List Int} {us:List Value},u8s es=some ns→RDL F w es.flatten us→us=ns.map (Value.int .u8)
 |[],ns,us,h,hu=>by simp [u8s] at h;subst h;simpa [RDL] using hu
 |x :: es,ns,us,h,hu=>by
   unfold u8s at h
   split at h
   ·rename_i heq;cases heq
   ·rename_i n l heq
    cases heq
    cases hq:u8s es with
    |none=>rw [hq] at h;cases h
    |some b=>
      rw [hq] at h
      simp only [Option.map_some,Option.some.injEq] at h
      subst h
      simp only [List.flatten_cons,List.cons_append,List.nil_append,RDL,RD] at hu
      obtain ⟨u,r,rfl,rfl,h3⟩:=hu
      rw [u8s_ok hq h3]
      rfl
   ·cases h
theorem u8s_len:∀ {es:List (List D)} {ns:List Int},u8s es=some ns→ns.length=es.length
 |[],ns,h=>by simp [u8s] at h;subst h;rfl
 |x :: es,ns,h=>by
   unfold u8s at h
   split at h
   ·rename_i heq;cases heq
   ·rename_i n l heq
    cases heq
    cases hq:u8s es with
    |none=>rw [hq] at h;cases h
    |some b=>
      rw [hq] at h
      simp only [Option.map_some,Option.some.injEq] at h
      subst h
      simp [u8s_len hq]
   ·cases h
theorem str_run {F:Ft} {w:World} {s t el:Nat} (hs:P.underlying s=some (.slice el)) (he:P.underlying el=some (.int .u8)) (ht:P.underlying t=some .string) {d0:List D} {es:List (List D)} {ns:List Int} (hn:u8s es=some ns) {v:Value} (hv:RD F w (.sl 1 d0 es) v):(convert s t v).run P w= .ok (.string (strOfNums ns)) w:=by
 simp only [RD] at hv
 obtain ⟨a,cap,rfl,_,_,hr⟩:=hv
 have hl:=u8s_len hn
 cases es with
 |nil=>
   obtain rfl:ns=[]:=List.eq_nil_of_length_eq_zero hl
   rw [List.length_nil,run_convert_bytes_string w s t el _ 0 cap hs he ht]
   cases a<;>simp [Conv.bytesToString,loadCells]
   all_goals rfl
 |cons e es=>
   have hr':=hr
   simp only [RR] at hr'
   obtain ⟨⟨b,o,us0,rfl,_⟩,_⟩:=hr'
   obtain ⟨us,h1,h2,_,_,h5⟩:=hr.cells
   have hus:=u8s_ok hn h1
   refine run_convert_bytes_arg w s el hs he b o _ cap ns hl (fun i hi=>?_) t ht
   have hin:i < ns.length:=by omega
   have:=(h5 i (.int .u8 (ns.getD i 0)) (by rw [hus];simp [List.getD,hin])).2
   simpa using this
theorem ok_str {s t el:Nat} (hs:P.underlying s=some (.slice el)) (he:P.underlying el=some (.int .u8)) (ht:P.underlying t=some .string) {x:Operand} (ho:o.op= .convert s t x) (h:strK K (e x)):Ok P G o e st nm K:=by
 refine Ok.of_none ?_
 generalize hx:e x=u at h
 have gen:∀ {d0:List D} {es:List (List D)} {ns:List Int},u8s es=some ns→(∀ E v,RV E u v→RD E.F E.w (.sl 1 d0 es) v)→HD P o e st nm (.d (.c (.string (strOfNums ns)))) none:=fun {d0 es ns} hn hv=>HD.val fun B E ρ h1 h2=>by
  have h3:=h1 x (by simp [Op.operands,ho])
  rw [hx] at h3
  refine ⟨.string (strOfNums ns),?_,by simp only [RV,RD]⟩
  simp only [execOp,ho,Sem.run_bind]
  rw [str_run hs he ht hn (hv E _ h3)]
  rfl
 unfold strK at h
 split at h<;>try exact h.elim
 ·split at h<;>try exact h.elim
  rename_i ns hn
  obtain ⟨rfl,h⟩:=h
  exact ⟨_,h,fun _=>gen hn fun E v hv=>by simpa only [RV] using hv⟩
 ·split at h<;>try exact h.elim
  rename_i ns hn
  obtain ⟨rfl,h⟩:=h
  exact ⟨_,h,fun _=>gen hn fun E v hv=>by simp only [RV] at hv;exact hv.2⟩
theorem hd_len_mo {c:Call} (ho:o.op= .call c) (hc:c.callee= .builtin .len) {t:Nat} {x:Operand} (hts:c.argTypes= #[t]) (has:c.args= #[x]) {el:Nat} (ht:P.underlying t=some (.slice el)) {n:Nat} {t' sz:Nat} {d0:List V} {es:List (List V)} (hx:e x= .mo n) (hst:st n=some (.row t' sz d0 es)):
  HD P o e st nm (vI es.length) none:=HD.val fun B E ρ h1 h2=>by
 have h3:=h1 x (by simp [Op.operands,ho,Call.operands,hc,has])
 rw [hx] at h3
 simp only [RV] at h3
 obtain ⟨v0,us,g1,g2,_⟩:=h2 n _ hst
 rw [h3.1] at g1
 cases g1
 obtain ⟨a,cap,hv,_⟩:=own_form g2
 refine ⟨.int .i64 es.length,?_,by simp [RV,RD]⟩
 simp [execOp,ho,resolve,hc,has,hts,invoke,builtin,hv,run_len_slice _ _ _ _ _ _ (elem_of ht),goInt]
theorem hd_len_nil {c:Call} (ho:o.op= .call c) (hc:c.callee= .builtin .len) {t:Nat} {x:Operand} (hts:c.argTypes= #[t]) (has:c.args= #[x]) {el:Nat} (ht:P.underlying t=some (.slice el)) (hx:e x= .d (.c (.slice none 0 0))):
  HD P o e st nm (vI 0) none:=HD.val fun B E ρ h1 h2=>by
 have h3:=h1 x (by simp [Op.operands,ho,Call.operands,hc,has])
 rw [hx] at h3
 simp only [RV,RD] at h3
 refine ⟨.int .i64 0,?_,by simp [RV,RD]⟩
 simp [execOp,ho,resolve,hc,has,hts,invoke,builtin,h3,run_len_slice _ _ _ _ _ _ (elem_of ht),goInt]
theorem hd_mm {c:Call} (ho:o.op= .call c) {b:Builtin} (hc:c.callee= .builtin b) {x y:Operand} (has:c.args.toList=[x,y]) {p q r:Int} (hx:e x= .d (.c (.int .i64 p))) (hy:e y= .d (.c (.int .i64 q)))
  (hr:∀ w ts ty cs,(builtin b ts ty cs #[.int .i64 p,.int .i64 q]).run P w= .ok (.value (.int .i64 r)) w):HD P o e st nm (vI r) none:=HD.val fun B E ρ h1 h2=>by
 have has':c.args= #[x,y]:=by rw [← Array.toArray_toList (xs:=c.args),has]
 have h3:=h1 x (by simp [Op.operands,ho,Call.operands,hc,has'])
 have h4:=h1 y (by simp [Op.operands,ho,Call.operands,hc,has'])
 rw [hx] at h3
 rw [hy] at h4
 simp only [RV,RD] at h3 h4
 refine ⟨.int .i64 r,?_,by simp [RV,RD]⟩
 simp [execOp,ho,resolve,hc,has',invoke,h3,h4,hr]
theorem args_one {c:Call} {x:V} (h:c.args.toList.map e=[x]):∃ y,c.args= #[y]∧e y=x:=by
 cases hl:c.args.toList with
 |nil=>rw [hl] at h;cases h
 |cons y l=>
   rw [hl] at h
   simp at h
   obtain ⟨h1,rfl⟩:=h
   exact ⟨y,by rw [← Array.toArray_toList (xs:=c.args),hl],h1⟩
theorem args_two {c:Call} {x y:V} (h:c.args.toList.map e=[x,y]):∃ p q,c.args.toList=[p,q]∧e p=x∧e q=y:=by
 cases hl:c.args.toList with
 |nil=>rw [hl] at h;cases h
 |cons p l=>
   cases l with
   |nil=>rw [hl] at h;simp at h
   |cons q l=>
     rw [hl] at h
     simp at h
     obtain ⟨h1,h2,rfl⟩:=h
     exact ⟨p,q,rfl,h1,h2⟩
theorem aggC_ok:∀ {l:List Value} {c:List Int},aggC l=some c→l=c.map (Value.int .i64)
 |[],c,h=>by simp [aggC] at h;subst h;rfl
 |v :: l,c,h=>by
   unfold aggC at h
   split at h
   ·rename_i heq;cases heq
   ·rename_i n l' heq
    cases heq
    cases hq:aggC l with
    |none=>rw [hq] at h;cases h
    |some b=>
      rw [hq] at h
      simp only [Option.map_some,Option.some.injEq] at h
      subst h
      rw [aggC_ok hq];rfl
   ·cases h
theorem aggC_map:∀ (c:List Int),aggC (c.map (Value.int .i64))=some c
 |[]=>rfl
 |n :: c=>by simp [aggC,aggC_map c]
theorem keyC_i {u:Value} {c:List Int} (h:keyC .i u=some c):∃ n,u= .int .i64 n∧c=[n]:=by
 unfold keyC at h
 split at h<;>first |(cases h;done)|(rename_i h1 _;cases h1;done)|skip
 all_goals first |(cases h;exact ⟨_,rfl,rfl⟩)|(rename_i h1;cases h1)|simp_all
theorem keyC_p {n:Nat} {u:Value} {c:List Int} (h:keyC (.p n) u=some c):∃ cs,u= .agg cs∧aggC cs.toList=some c:=by
 cases u<;>simp [keyC] at h
 exact ⟨_,rfl,h⟩
theorem keyC_s {u:Value} {c:List Int} (h:keyC .s u=some c):∃ s,u= .string s∧s.data.toList.map (fun b=>(b.toNat:Int))=c:=by
 cases u<;>simp [keyC] at h
 exact ⟨_,rfl,by simpa using h⟩
theorem bytes_inj:∀ {a b:List UInt8},a.map (fun b=>(b.toNat:Int))=b.map (fun b=>(b.toNat:Int))→a=b
 |[],[],_=>rfl
 |x :: a,y :: b,h=>by
   simp only [List.map_cons,List.cons.injEq] at h
   have:x.toNat=y.toNat:=by omega
   rw [UInt8.toNat_inj.1 this,bytes_inj h.2]
 |[],_ :: _,h=>by simp at h
 |_ :: _,[],h=>by simp at h
theorem keyC_inj {q:KQ} {u v:Value} {c:List Int} (hu:keyC q u=some c) (hv:keyC q v=some c):u=v:=by
 cases q with
 |i=>
   obtain ⟨n,rfl,h1⟩:=keyC_i hu
   obtain ⟨m,rfl,h2⟩:=keyC_i hv
   rw [h1] at h2
   cases h2
   rfl
 |p n=>
   obtain ⟨cs,rfl,h1⟩:=keyC_p hu
   obtain ⟨ds,rfl,h2⟩:=keyC_p hv
   rw [Array.toList_inj.1 ((aggC_ok h1).trans (aggC_ok h2).symm)]
 |s=>
   obtain ⟨a,rfl,h1⟩:=keyC_s hu
   obtain ⟨b,rfl,h2⟩:=keyC_s hv
   have:=bytes_inj (h1.trans h2.symm)
   cases a;cases b
   have e:=Array.toList_inj.1 this
   simp only at e
   rw [e]
theorem keyV_ok {q:KQ} {x:V} {c:List Int} {E:Env} {v:Value} (h:keyV q x=some c) (hv:RV E x v):keyC q v=some c:=by
 unfold keyV at h
 split at h
 ·cases h;simp only [RV,RD] at hv;subst hv;rfl
 ·simp only [RV] at hv
  obtain ⟨us,rfl,h2,_⟩:=hv
  rw [icells_ok h h2]
  simp only [keyC,List.toList_toArray]
  exact aggC_map c
 ·cases h;simp only [RV,RD] at hv;subst hv;rfl
 ·cases h
theorem rm_find {q:KQ} {k:TypeId} {E:Env} (K:KeyOk P k q) {c:List Int} {u:Value} (hu:keyC q u=some c) (hk:(keyOf P k u).isSome=true) (w:World) {ms:List MapEntry} {es:List (List Int×V)} (hm:RMp P q k E ms es) (hn:(es.map (·.1)).Nodup):
  ((Instr.findKey k u ms).run P w= .ok none w∧lkM c es=none∧upM c .any es=es++[(c,.any)]∧dlM c es=es)∨∃ j e x,(Instr.findKey k u ms).run P w= .ok (some (j,e.val)) w∧ms[j]? =some e∧e.key=u∧es[j]? =some (c,x)∧lkM c es=some x∧RV E x e.val:=by
 obtain ⟨l,hl⟩:=Option.isSome_iff_exists.1 hk
 have hkeys:∀ {ms:List MapEntry} {es:List (List Int×V)},RMp P q k E ms es→∀ e∈ms,∃ l,keyOf P k e.key=some l:=by
  intro ms
  induction ms with
  |nil=>intro es _ e he;cases he
  |cons a ms ih=>
    intro es hm e he
    cases es with
    |nil=>simp only [RMp] at hm
    |cons p es=>
      obtain ⟨d,x⟩:=p
      rcases List.mem_cons.1 he with rfl|he
      ·exact Option.isSome_iff_exists.1 (K.fit _ _ hm.1.1 hm.1.2.1)
      ·exact ih hm.2 e he
 rcases K.keyed.find w hl ms (hkeys hm) with ⟨h1,h2⟩|⟨j,e,h1,h2,h3⟩
 ·left
  refine ⟨h1,?_⟩
  clear h1 hkeys
  induction ms generalizing es with
  |nil=>
    cases es with
    |nil=>exact ⟨rfl,rfl,rfl⟩
    |cons p es=>simp only [RMp] at hm
  |cons a ms ih=>
    cases es with
    |nil=>simp only [RMp] at hm
    |cons p es=>
      obtain ⟨d,x⟩:=p
      have hcd:c≠d:=fun e=>h2 a (by simp) (keyC_inj (by rw [e];exact hm.1.1) hu)
      simp only [List.map_cons,List.nodup_cons] at hn
      obtain ⟨i1,i2,i3⟩:=ih hm.2 hn.2 (fun e he=>h2 e (by simp [he]))
      simp only [lkM,upM,dlM,if_neg hcd]
      exact ⟨i1,by rw [i2];rfl,by rw [i3]⟩
 ·right
  have key:∀ (ms:List MapEntry) (es:List (List Int×V)) (j:Nat),RMp P q k E ms es→(es.map (·.1)).Nodup→ms[j]? =some e→∃ x,es[j]? =some (c,x)∧lkM c es=some x∧RV E x e.val:=by
   intro ms
   induction ms with
   |nil=>intro es j _ _ h;simp at h
   |cons a ms ih=>
     intro es j hm hn hj
     cases es with
     |nil=>simp only [RMp] at hm
     |cons p es=>
       obtain ⟨d,x⟩:=p
       simp only [List.map_cons,List.nodup_cons] at hn
       cases j with
       |zero=>
         simp at hj
         subst hj
         have hdc:d=c:=by have:=hm.1.1;rw [h3,hu] at this;injection this with this;exact this.symm
         subst hdc
         exact ⟨x,rfl,by simp [lkM],hm.1.2.2⟩
       |succ j=>
         obtain ⟨y,i1,i2,i3⟩:=ih es j hm.2 hn.2 (by simpa using hj)
         have hcd:c≠d:=fun e'=>hn.1 (by
          rw [← e']
          exact List.mem_map.2 ⟨(c,y),List.mem_of_getElem? i1,rfl⟩)
         exact ⟨y,by simpa using i1,by simp only [lkM,if_neg hcd];exact i2,i3⟩
  obtain ⟨x,i1,i2,i3⟩:=key ms es j hm hn h2
  exact ⟨j,e,x,h1,h2,h3,i1,i2,i3⟩
theorem vD_ok {E:Env} {x:D} {v:Value} (h:RD E.F E.w x v):RV E (vD x) v:=by
 cases x<;>simp only [vD,RV]<;>try exact h
 simp only [RD] at h
 obtain ⟨us,h1,h2,h3⟩:=h
 exact ⟨us,h1,RVL.of_data h2,h3⟩
theorem rm_zip {P:Program} {q:KQ} {k:TypeId} {E:Env}:∀ {ms:List MapEntry} {cs:List (List Int)} {es:List D},keysR q ms cs→RDL E.F E.w es (ms.map (·.val))→RMp P q k E ms (zipM cs es)∧(zipM cs es).map (·.1)=cs
 |[],[],es,_,hv=>by
   cases es with
   |nil=>exact ⟨trivial,rfl⟩
   |cons x es=>simp only [List.map_nil,RDL] at hv;obtain ⟨u,r,h,_⟩:=hv;cases h
 |e :: ms,c :: cs,[],h,hv=>by simp only [List.map_cons,RDL] at hv;cases hv
 |e :: ms,c :: cs,x :: es,h,hv=>by
   simp only [List.map_cons,RDL] at hv
   obtain ⟨u,r,h1,h2,h3⟩:=hv
   cases h1
   obtain ⟨i1,i2⟩:=rm_zip (k:=k) (P:=P) h.2 h3
   exact ⟨⟨⟨h.1.1,h.1.2,vD_ok h2⟩,i1⟩,by simp [zipM,i2]⟩
 |[],_ :: _,_,h,_=>by simp only [keysR] at h
 |_ :: _,[],_,h,_=>by simp only [keysR] at h
theorem ok_look {t k el:Nat} {i:TyI} (ht:P.underlying t=some (.map k el)) (hi:TyOk P el i) {m x:Operand} {b:Bool} (ho:o.op= .lookup t m x b) (h:lookK P G st k i b K (e x) (e m)):Ok P G o e st nm K:=by
 refine Ok.of_none ?_
 generalize hx:e x=X at h
 generalize hm:e m=M at h
 unfold lookK at h
 split at h<;>try exact h.elim
 rotate_left
 ·rename_i q k' zv z0 cs es
  split at h<;>try exact h.elim
  rename_i c hc
  obtain ⟨⟨rfl,rfl⟩,hK,hfit,hKv⟩:=h
  refine ⟨_,hKv,fun hG=>HD.val fun B E ρ h1 h2=>?_⟩
  have rm:=h1 m (by simp [Op.operands,ho])
  have rx:=h1 x (by simp [Op.operands,ho])
  rw [hm] at rm
  rw [hx] at rx
  simp only [RV,RD] at rm
  obtain ⟨g5,g6,g7⟩:=rm
  have g5:RV E (vD z0) i.z:=vD_ok g5
  have hkc:=keyV_ok hc rx
  have hks:=hK.fit _ _ hkc (hfit hG)
  obtain ⟨l,hl⟩:=Option.isSome_iff_exists.1 hks
  have hz:=hi.zero E.w
  rcases g7 with ⟨gm,rfl⟩|⟨b',ms,clock,gm,g1,g2,g3,g4,g8⟩
  ·have hnil:=rm_find (P:=P) (E:=E) hK hkc hks E.w (ms:=[]) (es:=[]) trivial List.nodup_nil
   rcases hnil with ⟨h3,_⟩|⟨j,e0,y,_,h4,_⟩
   ·refine ⟨if b then .tuple #[i.z,.bool false] else i.z,?_,?_⟩
    ·simp [execOp,ho,Instr.lookup,run_underlying ht,gm,hK.keyed.check E.w _ hl,h3,hz,Result.andThen]
    ·cases b
     ·exact g5
     ·simp only [zipM,lkM,Option.getD_none,Option.isSome_none,RV,RVL]
      exact ⟨[i.z,.bool false],rfl,_,_,rfl,g5,_,_,rfl,by simp [RD],rfl⟩
   ·simp at h4
  ·obtain ⟨g3',g4'⟩:=rm_zip (P:=P) (E:=E) (k:=k') g3 g8
   rcases rm_find hK hkc hks E.w g3' (by rw [g4'];exact g4) with ⟨h3,h4,_⟩|⟨j,e0,y,h3,h4,h5,h6,h7,h8⟩
   ·refine ⟨if b then .tuple #[i.z,.bool false] else i.z,?_,?_⟩
    ·simp [execOp,ho,Instr.lookup,run_underlying ht,gm,MapKept.run_getObj_map g2,hK.keyed.check E.w _ hl,h3,hz,Result.andThen]
    ·rw [h4]
     cases b
     ·exact g5
     ·simp only [Option.getD_none,Option.isSome_none,RV,RVL]
      exact ⟨[i.z,.bool false],rfl,_,_,rfl,g5,_,_,rfl,by simp [RD],rfl⟩
   ·refine ⟨if b then .tuple #[e0.val,.bool true] else e0.val,?_,?_⟩
    ·simp [execOp,ho,Instr.lookup,run_underlying ht,gm,MapKept.run_getObj_map g2,hK.keyed.check E.w _ hl,h3,Result.andThen]
    ·rw [h7]
     cases b
     ·exact h8
     ·simp only [Option.getD_some,Option.isSome_some,RV,RVL]
      exact ⟨[e0.val,.bool true],rfl,_,_,rfl,h8,_,_,rfl,by simp [RD],rfl⟩
 rename_i n
 split at h<;>try exact h.elim
 rename_i q k' zv z0 es hst
 split at h<;>try exact h.elim
 rename_i c hc
 obtain ⟨⟨rfl,rfl⟩,hK,hfit,hKv⟩:=h
 refine ⟨_,hKv,fun hG=>HD.val fun B E ρ h1 h2=>?_⟩
 have rm:=h1 m (by simp [Op.operands,ho])
 have rx:=h1 x (by simp [Op.operands,ho])
 rw [hm] at rm
 rw [hx] at rx
 simp only [RV] at rm
 obtain ⟨b',ms,clock,g1,g2,g3,g4,g5,_⟩:=h2 n _ hst
 have gm:ρ m= .map (some b'):=Option.some.inj (rm.1.symm.trans g1)
 have hkc:=keyV_ok hc rx
 have hks:=hK.fit _ _ hkc (hfit hG)
 obtain ⟨l,hl⟩:=Option.isSome_iff_exists.1 hks
 have hz:=hi.zero E.w
 rcases rm_find hK hkc hks E.w g3 g4 with ⟨h3,h4,_⟩|⟨j,e0,y,h3,h4,h5,h6,h7,h8⟩
 ·refine ⟨if b then .tuple #[i.z,.bool false] else i.z,?_,?_⟩
  ·simp [execOp,ho,Instr.lookup,run_underlying ht,gm,MapKept.run_getObj_map g2,hK.keyed.check E.w _ hl,h3,hz,Result.andThen]
  ·rw [h4]
   cases b
   ·exact g5.1
   ·simp only [Option.getD_none,Option.isSome_none,RV,RVL]
    exact ⟨[i.z,.bool false],rfl,_,_,rfl,g5.1,_,_,rfl,by simp [RD],rfl⟩
 ·refine ⟨if b then .tuple #[e0.val,.bool true] else e0.val,?_,?_⟩
  ·simp [execOp,ho,Instr.lookup,run_underlying ht,gm,MapKept.run_getObj_map g2,hK.keyed.check E.w _ hl,h3,Result.andThen]
  ·rw [h7]
   cases b
   ·exact h8
   ·simp only [Option.getD_some,Option.isSome_some,RV,RVL]
    exact ⟨[e0.val,.bool true],rfl,_,_,rfl,h8,_,_,rfl,by simp [RD],rfl⟩
theorem hd_len_mp {c:Call} (ho:o.op= .call c) (hc:c.callee= .builtin .len) {t:Nat} {x:Operand} (hts:c.argTypes= #[t]) (has:c.args= #[x]) {k el:Nat} (ht:P.underlying t=some (.map k el)) {n:Nat} {q:KQ} {k':TypeId} {zv:Value} {z0:V} {es:List (List Int×V)} (hx:e x= .mp n) (hst:st n=some (.map q k' zv z0 es)):
  HD P o e st nm (vI es.length) none:=HD.val fun B E ρ h1 h2=>by
 have h3:=h1 x (by simp [Op.operands,ho,Call.operands,hc,has])
 rw [hx] at h3
 simp only [RV] at h3
 obtain ⟨b',ms,clock,g1,g2,g3,_⟩:=h2 n _ hst
 have gm:ρ x= .map (some b'):=Option.some.inj (h3.1.symm.trans g1)
 have hlen:∀ (ms:List MapEntry) (es:List (List Int×V)),RMp P q k' E ms es→ms.length=es.length:=by
  intro ms
  induction ms with
  |nil=>intro es h;cases es with
    |nil=>rfl
    |cons p es=>simp only [RMp] at h
  |cons a ms ih=>intro es h;cases es with
    |nil=>simp only [RMp] at h
    |cons p es=>obtain ⟨d,y⟩:=p;simp [ih es h.2]
 have hl:=hlen _ _ g3
 refine ⟨.int .i64 es.length,?_,by simp [RV,RD]⟩
 simp only [execOp,ho,resolve,hc,has,hts,invoke,builtin]
 simp [Builtin.len_,run_underlying ht,gm,MapKept.run_getObj_map g2,goInt,← hl]
theorem hd_len_dmp {c:Call} (ho:o.op= .call c) (hc:c.callee= .builtin .len) {t:Nat} {x:Operand} (hts:c.argTypes= #[t]) (has:c.args= #[x]) {k el:Nat} (ht:P.underlying t=some (.map k el)) {q:KQ} {k':TypeId} {zv:Value} {z0:D} {cs:List (List Int)} {es:List D} (hx:e x= .d (.mp q k' zv z0 cs es)):
  HD P o e st nm (vI cs.length) none:=HD.val fun B E ρ h1 h2=>by
 have h3:=h1 x (by simp [Op.operands,ho,Call.operands,hc,has])
 rw [hx] at h3
 simp only [RV,RD] at h3
 refine ⟨.int .i64 cs.length,?_,by simp [RV,RD]⟩
 rcases h3.2.2 with ⟨gm,rfl⟩|⟨b',ms,clock,gm,g1,g2,g3,_⟩
 ·simp only [execOp,ho,resolve,hc,has,hts,invoke,builtin]
  simp [Builtin.len_,run_underlying ht,gm,goInt]
 ·have hlen:∀ (ms:List MapEntry) (cs:List (List Int)),keysR q ms cs→ms.length=cs.length:=by
   intro ms
   induction ms with
   |nil=>intro es h;cases es with
     |nil=>rfl
     |cons p es=>simp only [keysR] at h
   |cons a ms ih=>intro es h;cases es with
     |nil=>simp only [keysR] at h
     |cons p es=>simp [ih es h.2]
  have hl:=hlen _ _ g3
  simp only [execOp,ho,resolve,hc,has,hts,invoke,builtin]
  simp [Builtin.len_,run_underlying ht,gm,MapKept.run_getObj_map g2,goInt,← hl]
theorem rr_src {F:Ft} {w:World} {sz:Nat} {es:List (List D)} {ad:Addr} (h:RR F w sz (some ad) es 0):∃ news,RDL F w es.flatten news∧news.length=es.length * sz∧(∀ u∈news,u.oneCell'=true)∧(∀ x∈es,x.length=sz)∧∀ j u,news[j]? =some u→w.cell? (ad.add j)=some u:=by
 cases es with
 |nil=>exact ⟨[],by simp [RDL],by simp,by simp,by simp,by simp⟩
 |cons e es=>
   have h':=h
   simp only [RR] at h'
   obtain ⟨⟨b,o,us,e1,_⟩,_⟩:=h'
   cases e1
   obtain ⟨us,h1,h2,h3,h4,h5⟩:=h.cells
   refine ⟨us,h1,h2,h3,h4,fun j u hj=>?_⟩
   have:=(h5 j u hj).2
   rw [Nat.add_zero] at this
   rw [Addr.add_any]
   exact this
theorem apS_ok {sz:Nat} {K:List (List D)→Prop} {y:V} (h:apS sz K y):∃ fs,K fs∧∀ {E:Env} {u:Value},RV E y u→(∃ c,u= .slice none 0 c∧fs=[])∨∃ ad c news,u= .slice (some ad) fs.length c∧RDL E.F E.w fs.flatten news∧news.length=fs.length * sz∧(∀ x∈news,x.oneCell'=true)∧(∀ x∈fs,x.length=sz)∧∀ j x,news[j]? =some x→E.w.cell? (ad.add j)=some x:=by
 have key:∀ {E:Env} {u:Value} {d0:List D} {fs:List (List D)},RD E.F E.w (.sl sz d0 fs) u→(∃ c,u= .slice none 0 c∧fs=[])∨∃ ad c news,u= .slice (some ad) fs.length c∧RDL E.F E.w fs.flatten news∧news.length=fs.length * sz∧(∀ x∈news,x.oneCell'=true)∧(∀ x∈fs,x.length=sz)∧∀ j x,news[j]? =some x→E.w.cell? (ad.add j)=some x:=fun {E u d0 fs} hu=>by
  simp only [RD] at hu
  obtain ⟨a,cap,hv,_,_,hr⟩:=hu
  cases a with
  |none=>
    have:=RR.none_nil hr
    subst this
    exact .inl ⟨cap,hv,rfl⟩
  |some ad=>
    cases fs with
    |nil=>exact .inr ⟨ad,cap,[],hv,by simp [RDL],by simp,by simp,by simp,by simp⟩
    |cons f fs=>
      obtain ⟨b,o,us,hae,_⟩:=hr.get (i:=0) rfl
      cases hae
      obtain ⟨us,g1,g2,g3,g4,g5⟩:=hr.cells
      refine .inr ⟨⟨b,o,none⟩,cap,us,hv,g1,g2,g3,g4,fun j x hj=>?_⟩
      rw [Addr.add_any]
      simpa using (g5 j x hj).2
 unfold apS at h
 split at h<;>try exact h.elim
 ·refine ⟨_,h,fun hu=>?_⟩
  simp only [RV,RD] at hu
  exact .inl ⟨0,hu,rfl⟩
 ·obtain ⟨rfl,h⟩:=h
  exact ⟨_,h,fun hu=>key (by simpa only [RV] using hu)⟩
 ·obtain ⟨rfl,h⟩:=h
  exact ⟨_,h,fun hu=>key (by simp only [RV] at hu;exact hu.2)⟩
theorem hd_fl {t el:Nat} {i:TyI} (ht:P.underlying t=some (.slice el)) (hi:TyOk P el i) (hpos:0 < i.sz) (hzs:i.z.cells.size=i.sz) {c:Call} (ho:o.op= .call c) (hc:c.callee= .builtin .append) (hts:c.argTypes= #[t,t]) {p q:Operand} (has:c.args= #[p,q]) {d0:List D} {es fs:List (List D)} (hp:e p= .fl i.sz d0 es) {y:V} (hq:e q=y)
  (hS:∀ {E:Env} {u:Value},RV E y u→(∃ c,u= .slice none 0 c∧fs=[])∨∃ ad c news,u= .slice (some ad) fs.length c∧RDL E.F E.w fs.flatten news∧news.length=fs.length * i.sz∧(∀ x∈news,x.oneCell'=true)∧(∀ x∈fs,x.length=i.sz)∧∀ j x,news[j]? =some x→E.w.cell? (ad.add j)=some x)
  (hby:(es.length+fs.length) * i.by_≤140737488355328) (hmax:es.length+fs.length≤140737488351232):HD P o e st nm (.d (.sl i.sz d0 (es++fs))) none:=by
 intro B E ρ h1 _ h2 hlt hB hn
 have rx:=h1 p (by simp [Op.operands,ho,Call.operands,hc,has])
 have ry:=h1 q (by simp [Op.operands,ho,Call.operands,hc,has])
 rw [hp] at rx
 rw [hq] at ry
 simp only [RV] at rx
 obtain ⟨ad,hx,hesl,hr⟩:=rx
 have hinf:=hi.1
 obtain ⟨j,hj,hz,hsz,hbyt⟩:∃ j,P.info? el=some j∧j.zero=some i.z∧j.size=i.sz∧j.bytes=i.by_:=by
  cases hj:P.info? el with
  |none=>rw [hj] at hinf;cases hinf
  |some j=>rw [hj] at hinf;simp at hinf;exact ⟨j,rfl,hinf.2.1,hinf.1,hinf.2.2⟩
 have hnone:∀ {v:Value} {w':World},(Builtin.append_ #[t,t] o.type #[ρ p,ρ q]).run P E.w= .ok v w'→(execOp ρ o).run P E.w= .ok (.value v) w':=fun hr=>by
  simp only [execOp,ho,resolve,hc,has,hts,invoke,builtin,List.map_toArray,List.map_cons,List.map_nil]
  simp [hr]
 have key:∀ (v:Value) (w':World) (xs:List Value),(execOp ρ o).run P E.w= .ok (.value v) w'→Below E.w.heap.size E.w w'→w'.ownsRow E.w.heap.size el i.sz v (es.length+fs.length) xs→RDL E.F E.w (es++fs).flatten xs→(∀ u∈xs,u.oneCell'=true)→(∀ y∈es++fs,y.length=i.sz)→
   Upon P (fun u w'=>∃ E',E'.w=w'∧HStep E E' nm∧RV E' (.d (.sl i.sz d0 (es++fs))) u∧NewB P B E E' nm none) ((execOp ρ o).run P E.w):=fun v w' xs hrun hb ho hd h1 hel=>by
  rw [hrun]
  let F':Ft:=⟨fun b o=>E.F.c b o∨(E.w.heap.size≤b∧b < w'.heap.size),E.F.m⟩
  have hF:FtNew E.F F' E.w w':=⟨⟨fun _ _ h=> .inl h,fun _ h=>h⟩,fun _ _ h=>h,fun _ h=> .inl h⟩
  let E':Env:=⟨E.η,F',w',E.dp⟩
  have hs:HStep E E' nm:=⟨hb,fun _ _=>rfl,hF,rfl⟩
  have hext:=hs.ext hlt hn
  have hd':RDL F' w' (es++fs).flatten xs:=RDL.mono hext.F hext.k _ _ hd
  refine ⟨E',rfl,hs,?_,rfl⟩
  simp only [RV,RD]
  have hlen:(es++fs).length=es.length+fs.length:=List.length_append
  rcases ho.2 with ⟨rfl,h0⟩|⟨g,cap,cur,rfl,k1,k3,k4,k5,k6,k7⟩
  ·have:es++fs=[]:=List.eq_nil_of_length_eq_zero (by omega)
   rw [this]
   exact ⟨none,0,rfl,Nat.le_refl _,by simp,by simp [RR]⟩
  ·have hlt:g < w'.heap.size:=(Array.getElem?_eq_some_iff.1 k3).1
   refine ⟨some ⟨g,0,none⟩,cap,by rw [hlen],by omega,by omega,?_⟩
   refine RR.of_cells hd' hel h1 (fun j u hj=>⟨.inr ⟨k1,hlt⟩,?_⟩)
   have:=ho.cells (g:=g) rfl j u hj
   rw [Addr.add_any] at this
   simpa using this
 have zero:fs=[]→(∃ xo c,ρ q= .slice xo 0 c)→Upon P (fun u w'=>∃ E',E'.w=w'∧HStep E E' nm∧RV E' (.d (.sl i.sz d0 (es++fs))) u∧NewB P B E E' nm none) ((execOp ρ o).run P E.w):=fun hf hq=>by
  subst hf
  obtain ⟨xo,c,hq⟩:=hq
  have hrun:(Builtin.append_ #[t,t] o.type #[ρ p,ρ q]).run P E.w= .ok (ρ p) E.w:=by
   rw [hq,hx]
   exact run_append_zero E.w ht hj ad es.length es.length xo c (Nat.le_refl _) (fun e=>by subst e;rw [hr.none_nil];exact ⟨rfl,rfl⟩)
  rw [hnone hrun]
  refine ⟨E,rfl,HStep.refl E nm,?_,rfl⟩
  rw [List.append_nil,hx]
  simp only [RV,RD]
  exact ⟨ad,es.length,rfl,Nat.le_refl _,hesl,hr⟩
 rcases hS ry with ⟨c1,hu,rfl⟩|⟨ad2,c1,news,hu,g1,g2,g3,g4,g5⟩
 ·exact zero rfl ⟨none,c1,hu⟩
 ·by_cases hf0:fs=[]
  ·exact zero hf0 ⟨some ad2,c1,by rw [hu,hf0];rfl⟩
  ·have hfl:0 < fs.length:=List.length_pos_iff.2 hf0
   cases ad with
   |none=>
     have hes0:=hr.none_nil
     subst hes0
     obtain ⟨v',w',r1,r2⟩:=run_append_own2 (P:=P) E.w E.w.heap.size t o.type el j i.z i.sz i.by_ ht hj hz hsz hbyt hzs hpos (.slice none 0 0) 0 [] (World.ownsRow_nil _ _ _ _) ad2 fs.length c1 news g2 g5 g3 (by unfold maxLen;simp at hmax;omega) (by simpa using hby) (Nat.le_refl _)
     have hb:=r2.below (B:=E.w.heap.size) (Nat.le_refl _) (fun g e=>by cases e)
     exact key v' w' news (hnone (by rw [hx,hu];simpa using r1)) hb (by simpa using r2.own) (by simpa using g1) g3 (by simpa using g4)
   |some ad=>
     obtain ⟨olds,n1,n2,n3,n4,n5⟩:=rr_src hr
     have r:=run_append_grow (P:=P) E.w t o.type el j i.z ht hj hz ad es.length es.length olds (by rw [hsz];exact n2) n5 ad2 fs.length c1 news (by rw [hsz];exact g2) g5 (by omega) (by omega) (growslice_fits (by omega) (by rw [hbyt];exact hby))
     obtain ⟨G,hG⟩:∃ G,G=grownCap E.w (es.length+fs.length) es.length el:=⟨_,rfl⟩
     rw [← hG] at r
     obtain ⟨w',hw'⟩:∃ w',w'=E.w.drew.alloc (.cells (olds.toArray++news.toArray++Builtin.zeroCells i.z.cells (G - (es.length+fs.length))) el):=⟨_,rfl⟩
     rw [← hw'] at r
     have hge:es.length+fs.length≤G:=by rw [hG];exact grownCap_ge _ _ _ _
     have hcm:G≤maxLen:=by rw [hG];exact grownCap_le_maxLen E.w (es.length+fs.length) es.length el (by unfold maxLen;omega)
     have hlen:(olds++news).length=(es.length+fs.length) * i.sz:=by rw [List.length_append,n2,g2,Nat.add_mul]
     have hown:w'.ownsRow E.w.heap.size el i.sz (.slice (some ⟨E.w.heap.size,0,none⟩) (es.length+fs.length) G) (es.length+fs.length) (olds++news):=by
      refine ⟨hlen,.inr ⟨E.w.heap.size,_,_,rfl,Nat.le_refl _,by rw [hw'];exact heap_alloc_new E.w.drew _,hge,hcm,?_,?_⟩⟩
      ·simp only [Array.size_append,List.size_toArray,size_zeroCells,hzs,n2,g2,← Nat.add_mul]
       congr 1
       omega
      ·simp only [Array.toList_append,List.append_assoc]
       rw [← List.append_assoc,← hlen]
       exact List.take_left
     have hb:Below E.w.heap.size E.w w':=by rw [hw'];exact ((Below.refl _ E.w).drew).alloc (Nat.le_refl _) _
     exact key _ w' (olds++news) (hnone (by rw [hx,hu];exact r)) hb hown (by rw [List.flatten_append];exact RDL.append n1 g1) (fun u hu=>by
      rcases List.mem_append.1 hu with hu|hu
      ·exact n3 u hu
      ·exact g3 u hu) (fun y hy=>by
      rcases List.mem_append.1 hy with hy|hy
      ·exact n4 y hy
      ·exact g4 y hy)
theorem ok_bi {c:Call} (hT:TabOk P T) (ho:o.op= .call c) {b:Builtin} (hc:c.callee= .builtin b) (h:biK T st b c.argTypes.toList (c.args.toList.map e) K):Ok P G o e st nm K:=by
 refine Ok.of_none ?_
 generalize hts':c.argTypes.toList=ts at h
 generalize has:c.args.toList.map e=vs at h
 unfold biK at h
 split at h<;>try exact h.elim
 ·split at h<;>try exact h.elim
  rename_i t x
  have hts:c.argTypes= #[t]:=by rw [← Array.toArray_toList (xs:=c.argTypes),hts']
  split at h<;>try exact h.elim
  ·rename_i el sz z bt hty
   have ht:P.underlying t=some (.slice el):=(ty_ok hT hty).2
   obtain ⟨y,hy,rfl⟩:=args_one has
   generalize hx:e y=u at h
   unfold lenK at h
   split at h<;>try exact h.elim
   ·exact ⟨_,h,fun _=>hd_len ho hc hts hy ht (by rw [hx];rfl)⟩
   ·exact ⟨_,h,fun _=>hd_len ho hc hts hy ht (by rw [hx];rfl)⟩
   ·exact ⟨_,h,fun _=>hd_len_nil ho hc hts hy ht hx⟩
   ·split at h<;>try exact h.elim
    rename_i hst
    exact ⟨_,h,fun _=>hd_len_mo ho hc hts hy ht hx hst⟩
  ·rename_i k el sz z bt hty
   have ht:P.underlying t=some (.map k el):=(ty_ok hT hty).2
   obtain ⟨y,hy,rfl⟩:=args_one has
   generalize hx:e y=u at h
   unfold lenM at h
   split at h<;>try exact h.elim
   ·split at h<;>try exact h.elim
    rename_i hst
    exact ⟨_,h,fun _=>hd_len_mp ho hc hts hy ht hx hst⟩
   ·exact ⟨_,h,fun _=>hd_len_dmp ho hc hts hy ht hx⟩
  ·rename_i sz z bt hty
   have ht:P.underlying t=some .string:=(ty_ok hT hty).2
   obtain ⟨y,hy,rfl⟩:=args_one has
   generalize hx:e y=u at h
   unfold lenS at h
   split at h<;>try exact h.elim
   rename_i str
   refine ⟨_,h,fun _=>HD.val fun B E ρ h1 h2=>?_⟩
   have h3:=h1 y (by simp [Op.operands,ho,Call.operands,hc,hy])
   rw [hx] at h3
   simp only [RV,RD] at h3
   refine ⟨.int .i64 str.data.toList.length,?_,by simp only [RV,RD]⟩
   simp only [execOp,ho,resolve,hc,hy,hts,invoke,builtin]
   simp [run_len_string _ _ _ _ ht,h3,goInt]
 ·split at h<;>try exact h.elim
  rename_i t t' x y
  obtain ⟨rfl,h⟩:=h
  have hts:c.argTypes= #[t,t]:=by rw [← Array.toArray_toList (xs:=c.argTypes),hts']
  obtain ⟨p,q,h1,h2,h3⟩:=args_two has
  have has':c.args= #[p,q]:=by rw [← Array.toArray_toList (xs:=c.args),h1]
  split at h<;>try exact h.elim
  rename_i el sz z bt hi1
  split at h<;>try exact h.elim
  rename_i i hi2
  obtain ⟨⟨hpos,hzs⟩,h⟩:=h
  unfold flK at h
  split at h<;>try exact h.elim
  rename_i sz d0 es hfl
  obtain ⟨rfl,h⟩:=h
  obtain ⟨fs,⟨hby,hmax,hK⟩,hS⟩:=apS_ok h
  have hx:x= .fl i.sz d0 es:=by
   cases x<;>simp only [flOf] at hfl<;>try (cases hfl;done)
   simp only [Option.some.injEq,Prod.mk.injEq] at hfl
   obtain ⟨rfl,rfl,rfl⟩:=hfl
   rfl
  exact ⟨_,hK,fun _=>hd_fl (ty_ok hT hi1).2 (ty_ok hT hi2) hpos hzs ho hc hts has' (h2.trans hx) h3 hS hby hmax⟩
 ·split at h<;>try exact h.elim
  obtain ⟨p,q,h1,h2,h3⟩:=args_two has
  unfold mmK at h
  split at h<;>try exact h.elim
  obtain ⟨rfl,rfl,h⟩:=h
  exact ⟨_,h,fun _=>hd_mm ho hc h1 h2 h3 (fun w ts ty cs=>by simp [builtin,run_min_int2])⟩
 ·split at h<;>try exact h.elim
  obtain ⟨p,q,h1,h2,h3⟩:=args_two has
  unfold mmK at h
  split at h<;>try exact h.elim
  obtain ⟨rfl,rfl,h⟩:=h
  exact ⟨_,h,fun _=>hd_mm ho hc h1 h2 h3 (fun w ts ty cs=>by simp [builtin,run_max_int2])⟩
theorem ok_call {c:Call} (ho:o.op= .call c) {f:FuncId} (hc:CalleeIs c e f) (h:callK P G st nm f (c.args.toList.map e) K ⟨⟩):Ok P G o e st nm K:=by
 rcases h with ⟨asA,r,h1,h2,h3,h4⟩|⟨asA,el,sz,d0,es,h1,h2,h3,h4⟩|⟨asA,r,h1,h2,h3,h4,h5⟩|⟨asA,el,sz,d0,es,h1,h2,h3,h4,h5⟩
 ·exact ⟨_,none,h4,fun hG=>hd_call ho hc h1 (h2 hG) h3⟩
 ·exact ⟨_,_,h4,fun hG=>hd_callO ho hc h1 (h2 hG) h3⟩
 ·exact ⟨_,none,h5,fun hG=>hd_callX ho hc h1 (h2 hG) h4 h3⟩
 ·exact ⟨_,_,h5,fun hG=>hd_callOX ho hc h1 (h2 hG) h4 h3⟩
end

theorem foldl_set (off:Nat):∀ (vs:List Value) (k:Nat) (arr:Array Value) (m:Nat),((vs.zipIdx k).foldl (fun (cs:Array Value) (p:Value×Nat)=>cs.setIfInBounds (off+p.2) p.1) arr)[m]? =
  if off+k≤m∧m < off+k+vs.length∧m < arr.size then vs[m - (off+k)]? else arr[m]?
 |[],k,arr,m=>by
   have:¬ (off+k≤m∧m < off+k+([]:List Value).length∧m < arr.size):=by simp;omega
   rw [if_neg this];rfl
 |v :: vs,k,arr,m=>by
   simp only [List.zipIdx_cons,List.foldl_cons]
   rw [foldl_set off vs (k+1) _ m,Array.size_setIfInBounds,Array.getElem?_setIfInBounds]
   by_cases h1:m=off+k
   ·subst h1
    have:¬ (off+(k+1)≤off+k∧off+k < off+(k+1)+vs.length∧off+k < arr.size):=by omega
    rw [if_neg this,if_pos rfl]
    by_cases h2:off+k < arr.size
    ·rw [if_pos h2,if_pos (by simp;omega)];simp
    ·rw [if_neg h2,if_neg (by simp;omega)];exact (Array.getElem?_eq_none (by omega)).symm
   ·by_cases h2:off+(k+1)≤m∧m < off+(k+1)+vs.length∧m < arr.size
    ·rw [if_pos h2,if_pos (by simp;omega),show m - (off+k)=(m - (off+(k+1)))+1 by omega,List.getElem?_cons_succ]
    ·rw [if_neg h2,if_neg (fun e=>h1 e.symm),if_neg (by simp;omega)]
def spliceU (us:List Value) (off:Nat) (vs:List Value):List Value:=us.take off++vs++us.drop (off+vs.length)
theorem fold_splice {us vs:List Value} {off:Nat} (h:off+vs.length≤us.length):(vs.toArray.zipIdx.foldl (fun (cs:Array Value) (p:Value×Nat)=>cs.setIfInBounds (off+p.2) p.1) us.toArray)=(spliceU us off vs).toArray:=by
 rw [← Array.foldl_toList]
 have hz:vs.toArray.zipIdx.toList=vs.zipIdx 0:=by simp
 rw [hz]
 refine Array.ext_getElem? fun m=>?_
 rw [foldl_set off vs 0]
 simp only [spliceU,List.getElem?_toArray,List.size_toArray]
 by_cases h1:m < off
 ·rw [if_neg (by omega),List.append_assoc,List.getElem?_append_left (by simp;omega),List.getElem?_take,if_pos h1]
 ·by_cases h2:m < off+vs.length
  ·rw [if_pos (by omega),List.append_assoc,List.getElem?_append_right (by simp;omega),List.length_take,Nat.min_eq_left (by omega),List.getElem?_append_left (by omega)]
   rfl
  ·rw [if_neg (by omega),List.getElem?_append_right (by simp;omega),List.getElem?_drop,List.length_append,List.length_take,Nat.min_eq_left (by omega)]
   congr 1;omega
section
variable {P:Program} {T:Tab} {G:Prop} {o:Oper} {e:Operand→V} {st:Nat→Option Blk} {nm:Nat} {K:HK} {E:Env} {ρ:Operand→Value}
theorem RVL.splice {cells cs:List V} {us vs:List Value} {off:Nat} (h:RVL E cells us) (h2:RVL E cs vs):RVL E (Go.Proofs.YthidfoohhhkobaaGreat.splice cells off cs) (spliceU us off vs):=by
 have hl:=h2.len
 unfold Go.Proofs.YthidfoohhhkobaaGreat.splice spliceU
 rw [hl]
 exact ((h.take off).append h2).append (h.drop _)
theorem fill_ok {place:Nat→Option (Nat×Nat)}:∀ {parts:List (Nat×Operand)} {cells cs:List V} {us:List Value},fillV place cells (parts.map fun (i,x)=>(i,e x))=some cs→(∀ p∈parts,RV E (e p.2) (ρ p.2))→RVL E cells us→(∀ u∈us,u.oneCell'=true)→
  ∃ us':List Value,Instr.fill place us.toArray (parts.map fun (i,x)=>(i,ρ x))=some us'.toArray∧RVL E cs us'∧∀ u∈us',u.oneCell'=true
 |[],cells,cs,us,h,_,hu,h1=>by
   simp [fillV] at h
   subst h
   exact ⟨us,by simp [Instr.fill],hu,h1⟩
 |(i,x) :: parts,cells,cs,us,h,hp,hu,h1=>by
   simp only [List.map_cons,fillV] at h
   split at h
   ·rename_i off size cs' hpl hvc
    split at h
    ·rename_i hsz
     obtain ⟨vs,hc1,hc2,hc3⟩:=vcells_ok hvc (hp (i,x) (by simp))
     have hlv:=hc2.len
     have hlu:=hu.len
     obtain ⟨us',g1,g2,g3⟩:=fill_ok (us:=spliceU us off vs) h (fun p hp'=>hp p (by simp [hp'])) (hu.splice hc2) (fun u hu'=>by
      unfold spliceU at hu'
      rcases List.mem_append.1 hu' with hu'|hu'
      ·rcases List.mem_append.1 hu' with hu'|hu'
       ·exact h1 u (List.mem_of_mem_take hu')
       ·exact hc3 u hu'
      ·exact h1 u (List.mem_of_mem_drop hu'))
     refine ⟨us',?_,g2,g3⟩
     simp only [List.map_cons,Instr.fill,hpl,hc1]
     have:¬ ((decide (vs.toArray.size≠size)||decide (off+vs.toArray.size > us.toArray.size))=true):=by simp;omega
     rw [if_neg this,fold_splice (by omega)]
     exact g1
    ·cases h
   ·cases h
theorem allOne_mem {z:Value} (h:allOne z=true):∀ u∈z.cells.toList,u.oneCell'=true:=fun u hu=>List.all_eq_true.1 h u hu
theorem places_of {t:Nat} {fs:List (Nat×Nat)} (h:kdOk P t (.struct fs)):∃ fields,P.underlying t=some (.struct fields)∧fields.toList.mapM (fun f=>(P.info? f.type).map fun i=>(f.offset,i.size))=some fs:=by
 simp only [kdOk] at h
 split at h
 ·rename_i fields hu
  injection h with h
  refine ⟨fields,hu,?_⟩
  clear hu
  generalize fields.toList=l at *
  induction l generalizing fs with
  |nil=>
    cases fs with
    |nil=>rfl
    |cons x fs=>simp at h
  |cons f l ih=>
    cases fs with
    |nil=>simp at h
    |cons x fs=>
      simp only [List.map_cons,List.cons.injEq,Prod.mk.injEq] at h
      obtain ⟨⟨h1,h2⟩,h3⟩:=h
      have ih':=ih h3
      cases hi:P.info? f.type with
      |none=>rw [hi] at h2;cases h2
      |some j=>
        rw [hi] at h2
        simp only [Option.map_some,Option.some.injEq] at h2
        rw [List.mapM_cons,ih',hi]
        simp [h1,h2]
 ·cases h
theorem hd_build {t:Nat} {fs:List (Nat×Nat)} {sz bt:Nat} {z:Value} (h:TyOk P t ⟨.struct fs,sz,z,bt⟩) {parts:Array (Nat×Operand)} (ho:o.op= .build t parts) {cs:List V} (hf:fillV (fs[·]?) (zcells z) (parts.toList.map fun (i,x)=>(i,e x))=some cs) (h1:allOne z=true):
  HD P o e st nm (.agg cs) none:=HD.val fun B E ρ h3 _=>by
 obtain ⟨us,g1,g2,g3⟩:=fill_ok (E:=E) (ρ:=ρ) hf (fun p hp=>h3 p.2 (by
  simp only [ho,Op.operands]
  simp only [List.mem_toArray,List.mem_map]
  exact ⟨p,hp,rfl⟩)) (RVL.const _) (allOne_mem h1)
 obtain ⟨fields,hu,hp⟩:=places_of h.2
 refine ⟨.agg us.toArray,?_,by simp only [RV];exact ⟨us,rfl,g2,g3⟩⟩
 have hb:P.built t (parts.map fun (i,x)=>(i,ρ x)).toList=some us.toArray:=by
  have h4:=h.1
  unfold Program.built
  cases hi:P.info? t with
  |none=>rw [hi] at h4;cases h4
  |some j=>
    rw [hi] at h4
    simp only [Option.map_some,Option.some.injEq,Prod.mk.injEq] at h4
    simp only [hu,h4.2,hp]
    have:(fun (x:Nat)=>fs.toArray[x]?)=fun (x:Nat)=>fs[x]?:=by funext x;simp
    rw [this]
    simpa using g1
 simp only [execOp,ho,Sem.run_bind,run_build _ _ _ _ hb]
 rfl
theorem hd_buildA {t n el:Nat} {sz bt bt':Nat} {z z':Value} {kd:TyK} (h:TyOk P t ⟨.arr n el,sz,z,bt⟩) (hel:TyOk P el ⟨kd,1,z',bt'⟩) {parts:Array (Nat×Operand)} (ho:o.op= .build t parts) {cs:List V} (hf:fillV (fun i=>some (i,1)) (zcells z) (parts.toList.map fun (i,x)=>(i,e x))=some cs) (h1:allOne z=true):
  HD P o e st nm (.agg cs) none:=HD.val fun B E ρ h3 _=>by
 obtain ⟨us,g1,g2,g3⟩:=fill_ok (E:=E) (ρ:=ρ) hf (fun p hp=>h3 p.2 (by
  simp only [ho,Op.operands]
  simp only [List.mem_toArray,List.mem_map]
  exact ⟨p,hp,rfl⟩)) (RVL.const _) (allOne_mem h1)
 refine ⟨.agg us.toArray,?_,by simp only [RV];exact ⟨us,rfl,g2,g3⟩⟩
 have hb:P.built t (parts.map fun (i,x)=>(i,ρ x)).toList=some us.toArray:=by
  have h4:=h.1
  have hu:P.underlying t=some (.array n el):=h.2
  have h5:=hel.size
  unfold Program.built
  cases hi:P.info? t with
  |none=>rw [hi] at h4;cases h4
  |some j=>
    cases hi2:P.info? el with
    |none=>rw [hi2] at h5;cases h5
    |some j2=>
      rw [hi] at h4
      rw [hi2] at h5
      simp only [Option.map_some,Option.some.injEq,Prod.mk.injEq] at h4 h5
      simp only [hu,h4.2,hi2,h5,Nat.mul_one]
      simpa using g1
 simp only [execOp,ho,Sem.run_bind,run_build _ _ _ _ hb]
 rfl
def Ft.add (F:Ft) (b n:Nat):Ft:=⟨fun x o=>F.c x o∨(x=b∧o < n),F.m⟩
theorem Ft.add_new {F:Ft} {w w':World} {n:Nat} (h:w.heap.size < w'.heap.size):FtNew F (F.add w.heap.size n) w w':=
 ⟨⟨fun _ _ h=> .inl h,fun _ h=>h⟩,fun b o hb=>hb.imp id (fun h2=>⟨by omega,by omega⟩),fun _ h=> .inl h⟩
theorem rowV_ok {sz n:Nat}:∀ {parts:List (Nat×Operand)} {k:Nat} {es:List (List D)} {us:List Value},rowV sz k (parts.map fun (i,x)=>(i,e x))=some es→(∀ p∈parts,RV E (e p.2) (ρ p.2))→us.length=n * sz→k+es.length=n→
  ∃ vs:List Value,Instr.fill (fun i=>some (i * sz,sz)) us.toArray (parts.map fun (i,x)=>(i,ρ x))=some (us.take (k * sz)++vs).toArray∧RDL E.F E.w es.flatten vs∧(∀ u∈vs,u.oneCell'=true)∧(∀ x∈es,x.length=sz)∧vs.length=es.length * sz
 |[],k,es,us,h,_,hl,hn=>by
   simp [rowV] at h
   subst h
   refine ⟨[],?_,by simp [RDL],by simp,by simp,by simp⟩
   simp only [List.map_nil,Instr.fill,List.append_nil]
   rw [List.take_of_length_le (by rw [hl];simp at hn;rw [hn];exact Nat.le_refl _)]
 |(i,x) :: parts,k,es,us,h,hp,hl,hn=>by
   simp only [List.map_cons,rowV] at h
   split at h
   ·rename_i cs hvc
    split at h
    ·rename_i ds hds
     split at h
     ·rename_i hk
      obtain ⟨rfl,hsz⟩:=hk
      cases hr:rowV sz (i+1) (parts.map fun (i,x)=>(i,e x)) with
      |none=>rw [hr] at h;cases h
      |some es'=>
        rw [hr] at h
        simp only [Option.map_some,Option.some.injEq] at h
        subst h
        simp only [List.length_cons] at hn
        obtain ⟨vs0,hc1,hc2,hc3⟩:=vcells_ok hvc (hp (i,x) (by simp))
        have hd:=toDs_ok hds hc2
        have hl0:=hd.len
        have hle:i * sz+sz≤us.length:=by
         rw [hl]
         calc i * sz+sz=(i+1) * sz:=by rw [Nat.add_mul,Nat.one_mul]
          _≤n * sz:=Nat.mul_le_mul_right _ (by omega)
        obtain ⟨vs,g1,g2,g3,g4,g5⟩:=rowV_ok (n:=n) (us:=spliceU us (i * sz) vs0) hr (fun p hp'=>hp p (by simp [hp'])) (by
         unfold spliceU
         simp only [List.length_append,List.length_take,List.length_drop]
         omega) (by omega)
        refine ⟨vs0++vs,?_,by simpa using hd.append g2,?_,?_,?_⟩
        ·simp only [List.map_cons,Instr.fill,hc1]
         have:¬ ((decide (vs0.toArray.size≠sz)||decide (i * sz+vs0.toArray.size > us.toArray.size))=true):=by simp;omega
         rw [if_neg this,fold_splice (by omega),g1]
         congr 2
         rw [← List.append_assoc]
         congr 1
         unfold spliceU
         rw [Nat.add_mul,Nat.one_mul,List.take_append_of_le_length (by simp;omega),List.take_of_length_le (by simp;omega)]
        ·intro u hu
         rcases List.mem_append.1 hu with hu|hu
         ·exact hc3 u hu
         ·exact g3 u hu
        ·intro y hy
         rcases List.mem_cons.1 hy with rfl|hy
         ·exact hsz
         ·exact g4 y hy
        ·rw [List.length_append,g5,List.length_cons,Nat.add_mul];omega
     ·cases h
    ·cases h
   ·cases h
theorem rowW_ok {sz n:Nat}:∀ {parts:List (Nat×Operand)} {k:Nat} {es:List (List V)} {us:List Value},rowW sz k (parts.map fun (i,x)=>(i,e x))=some es→(∀ p∈parts,RV E (e p.2) (ρ p.2))→us.length=n * sz→k+es.length=n→
  ∃ vs:List Value,Instr.fill (fun i=>some (i * sz,sz)) us.toArray (parts.map fun (i,x)=>(i,ρ x))=some (us.take (k * sz)++vs).toArray∧RVL E es.flatten vs∧(∀ u∈vs,u.oneCell'=true)∧(∀ x∈es,x.length=sz)∧vs.length=es.length * sz
 |[],k,es,us,h,_,hl,hn=>by
   simp [rowW] at h
   subst h
   refine ⟨[],?_,by simp [RVL],by simp,by simp,by simp⟩
   simp only [List.map_nil,Instr.fill,List.append_nil]
   rw [List.take_of_length_le (by rw [hl];simp at hn;rw [hn];exact Nat.le_refl _)]
 |(i,x) :: parts,k,es,us,h,hp,hl,hn=>by
   simp only [List.map_cons,rowW] at h
   split at h
   ·rename_i cs hvc
    split at h
    ·rename_i hk
     obtain ⟨rfl,hsz⟩:=hk
     cases hr:rowW sz (i+1) (parts.map fun (i,x)=>(i,e x)) with
     |none=>rw [hr] at h;cases h
     |some es'=>
       rw [hr] at h
       simp only [Option.map_some,Option.some.injEq] at h
       subst h
       simp only [List.length_cons] at hn
       obtain ⟨vs0,hc1,hc2,hc3⟩:=vcells_ok hvc (hp (i,x) (by simp))
       have hl0:=hc2.len
       have hle:i * sz+sz≤us.length:=by
        rw [hl]
        calc i * sz+sz=(i+1) * sz:=by rw [Nat.add_mul,Nat.one_mul]
         _≤n * sz:=Nat.mul_le_mul_right _ (by omega)
       obtain ⟨vs,g1,g2,g3,g4,g5⟩:=rowW_ok (n:=n) (us:=spliceU us (i * sz) vs0) hr (fun p hp'=>hp p (by simp [hp'])) (by
        unfold spliceU
        simp only [List.length_append,List.length_take,List.length_drop]
        omega) (by omega)
       refine ⟨vs0++vs,?_,by simpa using hc2.append g2,?_,?_,?_⟩
       ·simp only [List.map_cons,Instr.fill,hc1]
        have:¬ ((decide (vs0.toArray.size≠sz)||decide (i * sz+vs0.toArray.size > us.toArray.size))=true):=by simp;omega
        rw [if_neg this,fold_splice (by omega),g1]
        congr 2
        rw [← List.append_assoc]
        congr 1
        unfold spliceU
        rw [Nat.add_mul,Nat.one_mul,List.take_append_of_le_length (by simp;omega),List.take_of_length_le (by simp;omega)]
       ·intro u hu
        rcases List.mem_append.1 hu with hu|hu
        ·exact hc3 u hu
        ·exact g3 u hu
       ·intro y hy
        rcases List.mem_cons.1 hy with rfl|hy
        ·exact hsz
        ·exact g4 y hy
       ·rw [List.length_append,g5,List.length_cons,Nat.add_mul];omega
    ·cases h
   ·cases h
theorem hd_box {t:Nat} {x:Operand} (ho:o.op= .box t x) {cs:List V} (hc:vcells (e x)=some cs):HD P o e st nm (.ptr nm 0) (some (.cells t cs)):=
 HD.new fun B E ρ h1 _ hl hB hn=>by
  obtain ⟨us,g1,g2,g3⟩:=vcells_ok hc (h1 x (by simp [Op.operands,ho]))
  have hstep:HStep E (E.name nm (.pointer (some ⟨E.w.heap.size,0,none⟩)) E.F (E.w.alloc (.cells us.toArray t))) nm:=hstep_name (below_alloc _ _) FtNew.same
  refine ⟨.pointer (some ⟨E.w.heap.size,0,none⟩),E.name nm (.pointer (some ⟨E.w.heap.size,0,none⟩)) E.F (E.w.alloc (.cells us.toArray t)),?_,hstep,?_,?_⟩
  ·simp only [execOp,ho,Instr.box,Sem.run_bind,newVar,newRow,g1]
   rfl
  ·simp only [RV]
   exact ⟨_,by simp [Env.name],rfl⟩
  ·exact ⟨.pointer (some ⟨E.w.heap.size,0,none⟩),by simp [Env.name],fun b hb=>by cases hb;exact Nat.le_refl _,_,us,by simp [Env.name],heap_alloc_new _ _,RVL.mono (hstep.ext hl hn) _ _ g2,g3,okB_new hl hB rfl (by simp)⟩
theorem hd_buildSlice {t len el:Nat} {i:TyI} (ht:P.underlying t=some (.slice el)) (hi:TyOk P el i) {parts:Array (Nat×Operand)} (ho:o.op= .buildSlice t len parts) {es:List (List D)} (hr:rowV i.sz 0 (parts.toList.map fun (i,x)=>(i,e x))=some es) (hlen:es.length=len) (h24:len * i.sz≤16777216) (hpos:0 < i.sz) (hz:i.z.cells.size=i.sz):
  HD P o e st nm (.ow nm i.sz (zD i.z) es) (some (.tok el i.sz len)):=
 HD.new fun B E ρ h1 _ hl hB hn=>by
  obtain ⟨vs,g1,g2,g3,g4,g5⟩:=rowV_ok (E:=E) (ρ:=ρ) (n:=len) (us:=(List.range (len * i.sz)).map fun m=>i.z.cells[m % i.z.cells.size]!) hr (fun p hp=>h1 p.2 (by
   simp only [ho,Op.operands]
   simp only [List.mem_toArray,List.mem_map]
   exact ⟨p,hp,rfl⟩)) (by simp) (by omega)
  simp only [Nat.zero_mul,List.take_zero,List.nil_append] at g1
  have hw:E.w.heap.size < (E.w.alloc (.cells vs.toArray el)).heap.size:=by simp
  have hstep:HStep E (E.name nm (.slice (some ⟨E.w.heap.size,0,none⟩) len len) (E.F.add E.w.heap.size (len * i.sz)) (E.w.alloc (.cells vs.toArray el))) nm:=hstep_name (below_alloc _ _) (Ft.add_new hw)
  have hext:=hstep.ext hl hn
  have hcell:∀ j u,vs[j]? =some u→(E.w.alloc (.cells vs.toArray el)).cell? ⟨E.w.heap.size,j,none⟩=some u:=fun j u hj=>by
   have:=heap_alloc_new E.w (.cells vs.toArray el)
   simp only [World.cell?,this]
   simpa using hj
  have hbound:len≤16777216:=by
   calc len=len * 1:=by omega
    _≤len * i.sz:=Nat.mul_le_mul_left _ hpos
    _≤16777216:=h24
  have hF:E.F.le (E.F.add E.w.heap.size (len * i.sz)):=⟨fun _ _ h=> .inl h,fun _ h=>h⟩
  have hk:Kp E.F E.w (E.w.alloc (.cells vs.toArray el)):=hext.k
  refine ⟨.slice (some ⟨E.w.heap.size,0,none⟩) len len,_,?_,hstep,?_,?_⟩
  ·simp only [execOp,ho,Instr.buildSlice,Sem.run_bind,run_underlying ht,Result.andThen_ok,hi.sizeOf]
   rw [if_neg (by omega)]
   have hfill:∀ zz:Array Value,(len * i.sz=0∨zz=i.z.cells)→Instr.fill (fun j=>some (j * i.sz,i.sz)) ((Array.range (len * i.sz)).map fun m=>zz[m % zz.size]!) (parts.map fun (j,x)=>(j,ρ x)).toList=some vs.toArray:=fun zz hzz=>by
    have:(Array.range (len * i.sz)).map (fun m=>zz[m % zz.size]!)=((List.range (len * i.sz)).map fun m=>i.z.cells[m % i.z.cells.size]!).toArray:=by
     rcases hzz with h0|rfl
     ·rw [h0];simp
     ·rw [← Array.toArray_toList (xs:=Array.map _ _)];congr 1;simp
    rw [this,Array.toList_map]
    exact g1
   by_cases h0:len * i.sz=0
   ·rw [if_pos h0]
    simp only [Sem.run_pure,Result.andThen_ok,hfill #[] (.inl h0),Sem.run_bind,newRow]
    rfl
   ·rw [if_neg h0]
    simp only [Sem.run_bind,hi.zero,Sem.run_pure,Result.andThen_ok,hfill _ (.inr rfl),newRow]
    rfl
  ·simp only [RV,RD]
   refine ⟨by simp [Env.name],some ⟨E.w.heap.size,0,none⟩,len,by rw [hlen],by omega,by omega,?_⟩
   refine RR.of_cells (RDL.mono hF hk _ _ g2) g4 g3 (fun j u hj=>?_)
   simp only [Nat.zero_add]
   have hjl:=(List.getElem?_eq_some_iff.1 hj).1
   exact ⟨.inr ⟨rfl,by rw [← hlen,← g5];exact hjl⟩,hcell j u hj⟩
  ·refine ⟨.slice (some ⟨E.w.heap.size,0,none⟩) len len,by simp [Env.name],fun b hb=>by cases hb;exact Nat.le_refl _,.slice (some ⟨E.w.heap.size,0,none⟩) len len,vs,by simp [Env.name],⟨by rw [g5,hlen],.inr ⟨E.w.heap.size,len,vs.toArray,rfl,Nat.zero_le _,heap_alloc_new _ _,Nat.le_refl _,by unfold maxLen;omega,by simp [g5,hlen],?_⟩⟩,fun b hb=>?_⟩
   ·simp only [List.toList_toArray]
    exact List.take_of_length_le (by rw [g5,hlen];exact Nat.le_refl _)
   ·cases hb
    refine ⟨.inl hB,hw,fun h=>Nat.lt_irrefl _ (hl.2 E.w.heap.size h),fun o' h'=>?_⟩
    rcases h' with h'|h'
    ·exact (Nat.lt_irrefl _ (hl.1 E.w.heap.size _ h')).elim
    ·exact h'.2
theorem hd_buildSliceW {t len el:Nat} {i:TyI} (ht:P.underlying t=some (.slice el)) (hi:TyOk P el i) {parts:Array (Nat×Operand)} (ho:o.op= .buildSlice t len parts) {es:List (List V)} (hr:rowW i.sz 0 (parts.toList.map fun (i,x)=>(i,e x))=some es) (hlen:es.length=len) (h24:len * i.sz≤16777216) (hpos:0 < i.sz) (hz:i.z.cells.size=i.sz):
  HD P o e st nm (.mo nm) (some (.row el i.sz (dV (zD i.z)) es)):=
 HD.new fun B E ρ h1 _ hl hB hn=>by
  obtain ⟨vs,g1,g2,g3,g4,g5⟩:=rowW_ok (E:=E) (ρ:=ρ) (n:=len) (us:=(List.range (len * i.sz)).map fun m=>i.z.cells[m % i.z.cells.size]!) hr (fun p hp=>h1 p.2 (by
   simp only [ho,Op.operands]
   simp only [List.mem_toArray,List.mem_map]
   exact ⟨p,hp,rfl⟩)) (by simp) (by omega)
  simp only [Nat.zero_mul,List.take_zero,List.nil_append] at g1
  have hw:E.w.heap.size < (E.w.alloc (.cells vs.toArray el)).heap.size:=by simp
  have hstep:HStep E (E.name nm (.slice (some ⟨E.w.heap.size,0,none⟩) len len) E.F (E.w.alloc (.cells vs.toArray el))) nm:=hstep_name (below_alloc _ _) FtNew.same
  have hext:=hstep.ext hl hn
  have hcell:∀ j u,vs[j]? =some u→(E.w.alloc (.cells vs.toArray el)).cell? ⟨E.w.heap.size,j,none⟩=some u:=fun j u hj=>by
   have:=heap_alloc_new E.w (.cells vs.toArray el)
   simp only [World.cell?,this]
   simpa using hj
  have hbound:len≤16777216:=by
   calc len=len * 1:=by omega
    _≤len * i.sz:=Nat.mul_le_mul_left _ hpos
    _≤16777216:=h24
  have hF:E.F.le (E.F.add E.w.heap.size (len * i.sz)):=⟨fun _ _ h=> .inl h,fun _ h=>h⟩
  have hk:Kp E.F E.w (E.w.alloc (.cells vs.toArray el)):=hext.k
  refine ⟨.slice (some ⟨E.w.heap.size,0,none⟩) len len,_,?_,hstep,?_,?_⟩
  ·simp only [execOp,ho,Instr.buildSlice,Sem.run_bind,run_underlying ht,Result.andThen_ok,hi.sizeOf]
   rw [if_neg (by omega)]
   have hfill:∀ zz:Array Value,(len * i.sz=0∨zz=i.z.cells)→Instr.fill (fun j=>some (j * i.sz,i.sz)) ((Array.range (len * i.sz)).map fun m=>zz[m % zz.size]!) (parts.map fun (j,x)=>(j,ρ x)).toList=some vs.toArray:=fun zz hzz=>by
    have:(Array.range (len * i.sz)).map (fun m=>zz[m % zz.size]!)=((List.range (len * i.sz)).map fun m=>i.z.cells[m % i.z.cells.size]!).toArray:=by
     rcases hzz with h0|rfl
     ·rw [h0];simp
     ·rw [← Array.toArray_toList (xs:=Array.map _ _)];congr 1;simp
    rw [this,Array.toList_map]
    exact g1
   by_cases h0:len * i.sz=0
   ·rw [if_pos h0]
    simp only [Sem.run_pure,Result.andThen_ok,hfill #[] (.inl h0),Sem.run_bind,newRow]
    rfl
   ·rw [if_neg h0]
    simp only [Sem.run_bind,hi.zero,Sem.run_pure,Result.andThen_ok,hfill _ (.inr rfl),newRow]
    rfl
  ·simp only [RV]
   exact ⟨by simp [Env.name],_,_,_,rfl⟩
  ·have hln:vs.length=es.length * i.sz:=g5
   refine ⟨.slice (some ⟨E.w.heap.size,0,none⟩) len len,by simp [Env.name],fun b hb=>by cases hb;exact Nat.le_refl _,.slice (some ⟨E.w.heap.size,0,none⟩) len len,vs,by simp [Env.name],?_,RVL.mono hext _ _ g2,g4,g3,by omega,fun b hb=>by cases hb;exact okB_new hl hB rfl (by simp)⟩
   rw [hlen]
   refine ⟨by rw [g5,hlen],.inr ⟨E.w.heap.size,len,vs.toArray,rfl,Nat.zero_le _,heap_alloc_new _ _,Nat.le_refl _,by unfold maxLen;omega,by simp [g5,hlen],?_⟩⟩
   simp only [List.toList_toArray]
   exact List.take_of_length_le (by rw [g5,hlen];exact Nat.le_refl _)
theorem made_flat (z:Array Value) (hz:0 < z.size):∀ n:Nat,(madeCells z (n * z.size)).toList=(List.replicate n z.toList).flatten
 |0=>by simp [madeCells]
 |n+1=>by
   have ih:=made_flat z hz n
   simp only [madeCells,Array.toList_map,Array.toList_range] at ih ⊢
   rw [Nat.add_mul,Nat.one_mul,Nat.add_comm,List.range_add,List.map_append,List.map_map,List.replicate_succ,List.flatten_cons,← ih]
   congr 1
   ·refine List.ext_getElem (by simp) fun j h1 h2=>?_
    have hj:j < z.size:=by simpa using h1
    simp [Nat.mod_eq_of_lt hj,hj]
   ·refine List.map_congr_left fun j _=>?_
    simp [Nat.add_mod_left]
theorem rvl_vals {E:Env}:∀ us:List Value,RVL E (us.map fun u=> .d (.c u)) us
 |[]=>by simp [RVL]
 |u :: us=>by simp only [List.map_cons,RVL,RV,RD];exact ⟨u,us,rfl,rfl,rvl_vals us⟩
theorem hd_makeSlice {t el:Nat} {i:TyI} (ht:P.underlying t=some (.slice el)) (hi:TyOk P el i) {l c:Operand} (ho:o.op= .makeSlice t l c) {k k':IntKind} {a b:Int} (hl:e l= .d (.c (.int k a))) (hc:e c= .d (.c (.int k' b))) (hab:a=b) (h0:0≤a) (h1:a≤1048576) (hby:i.by_≤65536) (hpos:0 < i.sz) (hz:i.z.cells.size=i.sz) (h1z:allOne i.z=true):
  HD P o e st nm (.mo nm) (some (.row el i.sz (dV (zD i.z)) (List.replicate a.toNat (dV (zD i.z))))):=
 HD.new fun B E ρ hr _ hlt hB hn=>by
  subst hab
  have r1:=hr l (by simp [ho,Op.operands])
  have r2:=hr c (by simp [ho,Op.operands])
  rw [hl] at r1
  rw [hc] at r2
  simp only [RV,RD] at r1 r2
  have hinf:=hi.1
  obtain ⟨j,hj,hzj,hsz,hbyt⟩:∃ j,P.info? el=some j∧j.zero=some i.z∧j.size=i.sz∧j.bytes=i.by_:=by
   cases hj:P.info? el with
   |none=>rw [hj] at hinf;cases hinf
   |some j=>rw [hj] at hinf;simp at hinf;exact ⟨j,rfl,hinf.2.1,hinf.1,hinf.2.2⟩
  obtain ⟨n,rfl⟩:∃ n:Nat,a=n:=⟨a.toNat,by omega⟩
  have hb2:(j.bytes:Int) * (n:Int)≤281474976710656:=by
   rw [hbyt]
   have:i.by_ * n≤65536 * 1048576:=Nat.mul_le_mul hby (by omega)
   have h:((i.by_ * n:Nat):Int)≤281474976710656:=by omega
   rwa [Int.natCast_mul] at h
  have hrun:=run_make (P:=P) E.w t el j i.z ht hj hzj k k' n n h0 (Int.le_refl _) hb2 (by omega)
  rw [hsz,Int.toNat_natCast] at hrun
  obtain ⟨vs,hvs⟩:∃ vs,vs=(madeCells i.z.cells (n * i.sz)).toList:=⟨_,rfl⟩
  have hva:madeCells i.z.cells (n * i.sz)=vs.toArray:=by rw [hvs]
  rw [hva] at hrun
  have hfl:vs=(List.replicate n i.z.cells.toList).flatten:=by rw [hvs,← hz];exact made_flat _ (by omega) n
  have hln:vs.length=n * i.sz:=by rw [hvs];simp [size_madeCells]
  have hone:∀ u∈vs,u.oneCell'=true:=fun u hu=>by
   rw [hfl] at hu
   obtain ⟨l',h3,h4⟩:=List.mem_flatten.1 hu
   rw [(List.mem_replicate.1 h3).2] at h4
   exact List.all_eq_true.1 h1z u h4
  have hV:(List.replicate n (dV (zD i.z))).flatten=vs.map fun u=> .d (.c u):=by
   rw [hfl,List.map_flatten,List.map_replicate]
   simp only [dV,zD,List.map_map]
   rfl
  have hstep:HStep E (E.name nm (.slice (some ⟨E.w.heap.size,0,none⟩) n n) E.F (E.w.alloc (.cells vs.toArray el))) nm:=hstep_name (below_alloc _ _) FtNew.same
  have hext:=hstep.ext hlt hn
  refine ⟨.slice (some ⟨E.w.heap.size,0,none⟩) n n,_,?_,hstep,?_,?_⟩
  ·simp only [execOp,ho,r1,r2,Sem.run_bind,hrun]
   rfl
  ·simp only [RV]
   exact ⟨by simp [Env.name],_,_,_,rfl⟩
  ·refine ⟨.slice (some ⟨E.w.heap.size,0,none⟩) n n,by simp [Env.name],fun b hb=>by cases hb;exact Nat.le_refl _,.slice (some ⟨E.w.heap.size,0,none⟩) n n,vs,by simp [Env.name],?_,?_,?_,hone,?_,fun b hb=>by cases hb;exact okB_new hlt hB rfl (by simp)⟩
   ·rw [List.length_replicate,Int.toNat_natCast]
    refine ⟨hln,.inr ⟨E.w.heap.size,n,vs.toArray,rfl,Nat.zero_le _,heap_alloc_new _ _,Nat.le_refl _,by unfold maxLen;omega,by simp [hln],?_⟩⟩
    simp only [List.toList_toArray]
    exact List.take_of_length_le (by omega)
   ·rw [Int.toNat_natCast,hV];exact rvl_vals vs
   ·intro x hx
    rw [(List.mem_replicate.1 hx).2]
    simp [dV,zD,hz]
   ·rw [List.length_replicate];omega
theorem RR.cut {F:Ft} {w:World} {sz n l:Nat} {a:Option Addr} {es:List (List D)} (h:RR F w sz a es 0) (hl:l≤n) (hes:(es.length:Nat)≤n) (hl2:n=l→es.drop l=[]):RR F w sz (if n - l=0 then a else a.map (·.add (l * sz))) (es.drop l) 0:=by
 by_cases hnl:n - l=0
 ·rw [hl2 (by omega)];simp [RR]
 ·rw [if_neg hnl]
  cases a with
  |none=>have:=RR.none_nil h;subst this;simp [RR]
  |some ad=>
    have hd:=h.drop l
    cases hc:es.drop l with
    |nil=>simp [RR]
    |cons x xs=>
      have:es≠[]:=by rintro rfl;simp at hc
      cases es with
      |nil=>exact (this rfl).elim
      |cons y ys=>
        obtain ⟨b,o',us,hae,_⟩:=h.get (i:=0) rfl
        cases hae
        rw [← hc]
        simp only [Option.map_some,Addr.add_any]
        have:=RR.shift (l * sz) (k:=0) (es:=(y :: ys).drop l) (by simpa using hd)
        exact this
theorem hd_cut {t el:Nat} {i:TyI} (ht:P.underlying t=some (.slice el)) (hi:TyOk P el i) {x:Operand} {lo hi':Option Operand} (ho:o.op= .slice t x lo hi' none) {sz:Nat} {d0:List D} {es:List (List D)} (hx:slOf (e x)=some (sz,d0,es)) (hsz:sz=i.sz) (h:cutK G K sz d0 es (lo.map e) (hi'.map e)):Ok P G o e st nm K:=by
 refine Ok.of_none ?_
 have key:∀ (l r:Nat) (_:G→l≤r∧r≤es.length) (_:∀ (ρ:Operand→Value) (E:Env) (a:Option Addr) (cap:Nat),G→(∀ y∈o.op.operands,RV E (e y) (ρ y))→es.length≤cap→(Instr.slice t (.slice a es.length cap) (lo.map ρ) (hi'.map ρ) none).run P E.w=((sizeOf (P.elem t)).run P E.w).andThen fun s w=> .ok (sliced a l r cap s) w),
   G→HD P o e st nm (.d (.sl sz d0 ((es.take r).drop l))) none:=fun l r hlr hrun hG=>HD.val fun B E ρ h1 _=>by
  have hrx:=slOf_ok hx (h1 x (by simp [Op.operands,ho]))
  simp only [RD] at hrx
  obtain ⟨a,cap,hv,h3,h4,h5⟩:=hrx
  obtain ⟨h6,h7⟩:=hlr hG
  refine ⟨sliced a l r cap sz,?_,?_⟩
  ·simp only [execOp,ho,hv,Sem.run_bind,Option.map_none]
   rw [run_sliceAt_slice _ _ _ _ _ _ (elem_of ht),hrun ρ E a cap hG h1 h3,elem_eq ht,hi.sizeOf,hsz]
   rfl
  ·simp only [RV,RD,sliced]
   have hlen:((es.take r).drop l).length=r - l:=by simp;omega
   refine ⟨_,cap - l,by rw [hlen],by rw [hlen];omega,by rw [hlen];omega,?_⟩
   have:=RR.cut (n:=cap) (l:=l) (h5.take r) (by omega) (by simp;omega) (fun e=>by
    apply List.drop_eq_nil_of_le;simp;omega)
   by_cases hcl:cap=l
   ·rw [if_pos hcl]
    rw [if_pos (by omega)] at this
    exact this
   ·rw [if_neg hcl]
    rw [if_neg (by omega)] at this
    exact this
 have lit:∀ {z:Operand} {k:IntKind} {n:Int} {E:Env} {v:Value},e z= .d (.c (.int k n))→RV E (e z) v→v= .int k n:=fun hz hv=>by rw [hz] at hv;simpa only [RV,RD] using hv
 unfold cutK at h
 split at h<;>try exact h.elim
 ·rename_i h1 h2
  cases lo with
  |some _=>cases h1
  |none=>
  cases hi' with
  |some _=>cases h2
  |none=>
  refine ⟨_,h,fun hG=>?_⟩
  have:=key 0 es.length (fun _=>⟨Nat.zero_le _,Nat.le_refl _⟩) (fun ρ E a cap _ _ hc=>by simpa using run_slice_all _ _ _ _ _ (elem_of ht)) hG
  simpa using this
 ·rename_i k l h1 h2
  cases lo with
  |none=>cases h1
  |some z=>
  cases hi' with
  |some _=>cases h2
  |none=>
  simp only [Option.map_some,Option.some.injEq] at h1
  refine ⟨_,h.2,fun hG=>?_⟩
  obtain ⟨g1,g2⟩:=h.1 hG
  have:=key l.toNat es.length (fun _=>⟨by omega,Nat.le_refl _⟩) (fun ρ E a cap _ hop hc=>by
   have hz:=lit h1 (hop z (by simp [Op.operands,ho]))
   simp only [Option.map_some,Option.map_none,hz]
   exact run_slice_l _ _ _ _ _ (elem_of ht) _ _ g1 g2) hG
  simpa using this
 ·rename_i k r h1 h2
  cases lo with
  |some _=>cases h1
  |none=>
  cases hi' with
  |none=>cases h2
  |some z=>
  simp only [Option.map_some,Option.some.injEq] at h2
  refine ⟨_,h.2,fun hG=>?_⟩
  obtain ⟨g1,g2⟩:=h.1 hG
  have:=key 0 r.toNat (fun _=>⟨Nat.zero_le _,by omega⟩) (fun ρ E a cap _ hop hc=>by
   have hz:=lit h2 (hop z (by simp [Op.operands,ho]))
   simp only [Option.map_some,Option.map_none,hz]
   exact run_slice_h _ _ _ _ _ (elem_of ht) _ _ g1 (by omega)) hG
  simpa using this
 ·rename_i k l k' r h1 h2
  cases lo with
  |none=>cases h1
  |some z=>
  cases hi' with
  |none=>cases h2
  |some y=>
  simp only [Option.map_some,Option.some.injEq] at h1 h2
  refine ⟨_,h.2,fun hG=>?_⟩
  obtain ⟨g1,g2,g3⟩:=h.1 hG
  exact key l.toNat r.toNat (fun _=>⟨by omega,by omega⟩) (fun ρ E a cap _ hop hc=>by
   have hz:=lit h1 (hop z (by simp [Op.operands,ho]))
   have hy:=lit h2 (hop y (by simp [Op.operands,ho]))
   simp only [Option.map_some,hz,hy]
   exact run_slice_lh _ _ _ _ _ (elem_of ht) _ _ _ _ g1 g2 (by omega)) hG
theorem hd_clip {t el:Nat} {i:TyI} (ht:P.underlying t=some (.slice el)) (hi:TyOk P el i) {x hh mm:Operand} (ho:o.op= .slice t x none (some hh) (some mm)) {sz:Nat} {d0:List D} {es:List (List D)} (hx:slOf (e x)=some (sz,d0,es)) (hsz:sz=i.sz) {k k':IntKind} {a b:Int} (ha:e hh= .d (.c (.int k a))) (hb:e mm= .d (.c (.int k' b)))
  (h0:0≤a) (h1:a=b) (h2:b≤es.length):HD P o e st nm (.fl sz d0 (es.take a.toNat)) none:=HD.val fun B E ρ h3 _=>by
 subst h1
 have hrx:=slOf_ok hx (h3 x (by simp [Op.operands,ho]))
 have ra:=h3 hh (by simp [Op.operands,ho])
 have rb:=h3 mm (by simp [Op.operands,ho])
 rw [ha] at ra
 rw [hb] at rb
 simp only [RV,RD] at ra rb
 simp only [RD] at hrx
 obtain ⟨ad,cap,hv,h4,h5,h6⟩:=hrx
 refine ⟨sliced ad 0 a.toNat a.toNat sz,?_,?_⟩
 ·simp only [execOp,ho,hv,Sem.run_bind,Option.map_none,Option.map_some,ra,rb]
  rw [run_sliceAt_slice _ _ _ _ _ _ (elem_of ht),run_slice_hm _ _ _ _ _ (elem_of ht) _ _ _ _ h0 (Int.le_refl _) (by omega),elem_eq ht,hi.sizeOf,hsz]
  rfl
 ·simp only [RV,sliced]
  have hlen:(es.take a.toNat).length=a.toNat:=by simp;omega
  refine ⟨_,by rw [hlen];rfl,by rw [hlen];omega,?_⟩
  have:=RR.cut (n:=a.toNat) (l:=0) (h6.take a.toNat) (by omega) (by simp;omega) (fun e=>by
   have:a.toNat=0:=by omega
   rw [this];simp)
  simp only [Nat.sub_zero,List.drop_zero] at this
  by_cases hb0:a.toNat=0
  ·rw [if_pos hb0];rw [if_pos hb0] at this;exact this
  ·rw [if_neg hb0];rw [if_neg hb0] at this;exact this
theorem hd_field {s f d sz1:Nat} {fs:List (Nat×Nat)} {sz bt:Nat} {z:Value} (h:TyOk P s ⟨.struct fs,sz,z,bt⟩) (hf:fs[f]? =some (d,sz1)) {x:Operand} (ho:o.op= .field s x f) {cs:List V} {c:V} (hx:e x= .agg cs) (hc:cs[d]? =some c) (h1:FieldOne P s f):HD P o e st nm c none:=HD.val fun B E ρ h3 _=>by
 have hr:=h3 x (by simp [Op.operands,ho])
 rw [hx] at hr
 simp only [RV] at hr
 obtain ⟨us,hu,hl,_⟩:=hr
 obtain ⟨u,g1,g2⟩:=hl.get hc
 obtain ⟨fields,fl,k1,k2,k3⟩:=h1
 obtain ⟨fields',fl',m1,m2,m3,_⟩:=kd_struct h.2 hf
 rw [k1] at m1
 cases m1
 rw [k2] at m2
 cases m2
 refine ⟨u,?_,g2⟩
 cases hq:P.underlying fl.type with
 |none=>rw [hq] at k3;cases k3
 |some td=>
   rw [hq] at k3
   have hagg:∀ w,(isAgg fl.type).run P w= .ok false w:=fun w=>by
    unfold Go.isAgg
    rw [Sem.run_bind,run_underlying hq w]
    cases td<;>simp_all [TypeDesc.isRow]
   have hcell:us.toArray[fl.offset]? =some u:=by rw [m3];simpa using g1
   simp only [execOp,ho,Instr.field,hu,Sem.run_bind,run_underlying k1,Result.andThen_ok,k2,asAgg,Sem.run_pure,part,hagg,Bool.false_eq_true,if_false,hcell]
theorem ofC_okz (E:Env) (v:Value) (h:allOne v=true):RV E (ofC v) v:=by
 cases v<;>simp only [ofC,RV,RD]
 rename_i cs
 refine ⟨cs.toList,by simp,RVL.of_data ?_,fun u hu=>List.all_eq_true.1 h u hu⟩
 generalize cs.toList=l
 induction l with
 |nil=>simp [RDL]
 |cons u l ih=>simp only [List.map_cons,RDL,RD];exact ⟨u,l,rfl,rfl,ih⟩
theorem hd_makeMap {t k:Nat} {i:TyI} {q:KQ} (ho:o.op= .makeMap t none) (h1:allOne i.z=true):HD P o e st nm (.mp nm) (some (.map q k i.z (ofC i.z) [])):=
 HD.new fun B E ρ _ _ hl hB hn=>by
  have hstep:HStep E (E.name nm (.map (some E.w.heap.size)) E.F (E.w.alloc (.map #[] 0))) nm:=hstep_name (below_alloc _ _) FtNew.same
  refine ⟨.map (some E.w.heap.size),E.name nm (.map (some E.w.heap.size)) E.F (E.w.alloc (.map #[] 0)),?_,hstep,?_,?_⟩
  ·simp only [execOp,ho,Option.map_none,Sem.run_bind,run_makeMap]
   rfl
  ·simp only [RV]
   exact ⟨by simp [Env.name],_,rfl⟩
  ·refine ⟨.map (some E.w.heap.size),by simp [Env.name],fun b hb=>by cases hb;exact Nat.le_refl _,_,#[],0,by simp [Env.name],heap_alloc_new _ _,trivial,List.nodup_nil,⟨ofC_okz _ i.z h1,by simp,by simp⟩,okB_new hl hB rfl (by simp)⟩
theorem hd_makeFunc {f:FuncId} {cs:Array Operand} (ho:o.op= .makeFunc (.func f) #[] cs):HD P o e st nm (.fn f (cs.toList.map e)) none:=HD.val fun B E ρ h1 _=>by
 have hm:cs.map ρ=(cs.toList.map ρ).toArray:=by rw [← Array.toList_map,Array.toArray_toList]
 refine ⟨.func (.func f) #[] (cs.toList.map ρ).toArray,?_,?_⟩
 ·rw [← hm];simp [execOp,ho,Instr.makeFunc]
 ·simp only [RV]
  exact ⟨_,rfl,RVL.of_forall _ (fun x hx=>h1 x (by simp [ho,Op.operands,Array.mem_toList_iff.1 hx]))⟩
theorem hd_makeMeth {f:FuncId} {fs:Array Operand} (ho:o.op= .makeFunc (.func f) fs #[]):HD P o e st nm (.fm f (fs.toList.map e)) none:=HD.val fun B E ρ h1 _=>by
 have hm:fs.map ρ=(fs.toList.map ρ).toArray:=by rw [← Array.toList_map,Array.toArray_toList]
 refine ⟨.func (.func f) (fs.toList.map ρ).toArray #[],?_,?_⟩
 ·rw [← hm];simp [execOp,ho,Instr.makeFunc]
 ·simp only [RV]
  exact ⟨_,rfl,RVL.of_forall _ (fun x hx=>h1 x (by simp [ho,Op.operands,Array.mem_toList_iff.1 hx]))⟩
theorem ok_nil {x:Operand} (ho:o.op= .nilCheck x) (h:nilK K (e x)):Ok P G o e st nm K:=by
 refine Ok.of_none ?_
 have key:(∀ E v,RV E (e x) v→∃ a,v= .pointer (some a))→HD P o e st nm (e x) none:=fun hp=>HD.val fun B E ρ h1 h2=>by
  have h3:=h1 x (by simp [Op.operands,ho])
  obtain ⟨a,ha⟩:=hp E _ h3
  exact ⟨ρ x,by simp [execOp,ho,ha],h3⟩
 generalize hx:e x=u at h key
 unfold nilK at h
 split at h<;>try exact h.elim
 ·exact ⟨_,h,fun _=>key fun E v hv=>by simp only [RV] at hv;obtain ⟨b,_,rfl⟩:=hv;exact ⟨_,rfl⟩⟩
 ·exact ⟨_,h,fun _=>key fun E v hv=>by simp only [RV] at hv;obtain ⟨b,o',rfl,_⟩:=hv;exact ⟨_,rfl⟩⟩
 ·exact ⟨_,h,fun _=>key fun E v hv=>by simp only [RV] at hv;obtain ⟨b,l,c,_,rfl⟩:=hv;exact ⟨_,rfl⟩⟩
 ·exact ⟨_,h,fun _=>key fun E v hv=>by simp only [RV,RD] at hv;obtain ⟨b,o',us,rfl,_⟩:=hv;exact ⟨_,rfl⟩⟩
theorem ok_index {t el n:Nat} {i:TyI} (ht:P.underlying t=some (.array n el)) (hi:TyOk P el i) (h1:i.sz=1) (ha:i.kd.agg=false) {x y:Operand} (ho:o.op= .index t x y) (h:idxK G n K (e x) (e y)):Ok P G o e st nm K:=by
 refine Ok.of_none ?_
 generalize hx:e x=u at h
 generalize hy:e y=v at h
 unfold idxK at h
 split at h<;>try exact h.elim
 rename_i cs k j
 obtain ⟨hl,hjG,h⟩:=h
 split at h<;>try exact h.elim
 rename_i v hv
 refine ⟨_,h,fun hG=>HD.val fun B E ρ h2 _=>?_⟩
 have hj:=hjG hG
 have g1:=h2 x (by simp [Op.operands,ho])
 have g2:=h2 y (by simp [Op.operands,ho])
 rw [hx] at g1
 rw [hy] at g2
 simp only [RV,RD] at g1 g2
 obtain ⟨us,g3,g4,_⟩:=g1
 obtain ⟨u,g5,g6⟩:=g4.get hv
 refine ⟨u,?_,g6⟩
 have hcell:us.toArray[j.toNat * 1]? =some u:=by simpa using g5
 simp only [execOp,ho,Instr.index,g2,g3,Sem.run_bind,asIntOf,Sem.run_pure,Result.andThen_ok,run_underlying ht]
 rw [if_pos (by omega)]
 simp only [Sem.run_bind,hi.sizeOf,h1,Result.andThen_ok,part,hi.isAgg,ha,Bool.false_eq_true,if_false,hcell,Sem.run_pure]
theorem byte_get (s:ByteArray) (i:Nat) (h:i < s.size):s[i]=s.data.toList.getD i 0:=by
 rw [List.getD_eq_getElem?_getD,List.getElem?_eq_getElem (by simpa using h)]
 rfl
theorem ok_strIx {t:Nat} (ht:P.underlying t=some .string) {x y:Operand} (ho:o.op= .index t x y) (h:strIx G K (e x) (e y)):Ok P G o e st nm K:=by
 refine Ok.of_none ?_
 generalize hx:e x=u at h
 generalize hy:e y=v at h
 unfold strIx at h
 split at h<;>try exact h.elim
 rename_i s k j
 obtain ⟨hjG,h⟩:=h
 refine ⟨_,h,fun hG=>HD.val fun B E ρ h2 _=>?_⟩
 have hj:=hjG hG
 have g1:=h2 x (by simp [Op.operands,ho])
 have g2:=h2 y (by simp [Op.operands,ho])
 rw [hx] at g1
 rw [hy] at g2
 simp only [RV,RD] at g1 g2
 have hjs:0≤j∧j < (s.size:Int):=by simpa using hj
 refine ⟨.int .u8 ((s.data.toList.getD j.toNat 0).toNat:Int),?_,by simp only [RV,RD]⟩
 simp only [execOp,ho,g1,g2,Sem.run_bind]
 rw [run_index_string _ t s k j ht,dif_pos hjs,byte_get s j.toNat (by omega)]
 simp only [Result.andThen_ok,Sem.run_pure]
theorem ok_ixA {t el n:Nat} {i:TyI} (ht:P.underlying t=some (.array n el)) (hi:TyOk P el i) (h1:i.sz=1) {x y:Operand} (ho:o.op= .indexAddr t x y) (h:ixA G n K (e x) (e y)):Ok P G o e st nm K:=by
 refine Ok.of_none ?_
 have run:∀ (w:World) (b o':Nat) (k:IntKind) (j:Int),0≤j→j < n→(Instr.indexAt t (.pointer (some ⟨b,o',none⟩)) (.int k j)).run P w= .ok (.pointer (some ⟨b,o'+j.toNat,none⟩)) w:=fun w b o' k j h0 h2=>by
  have e1:=hi.sizeOf (P:=P) w
  rw [h1] at e1
  unfold Instr.indexAt
  simp only [Sem.run_bind,asIntOf,Sem.run_pure,Result.andThen_ok,run_underlying ht,Instr.sureAddr]
  simp only [h0,h2,and_self,if_true,Sem.run_bind,Result.andThen_ok,e1,Nat.mul_one,Sem.run_pure]
  rw [Addr.add_any]
 generalize hx:e x=u at h
 generalize hy:e y=v at h
 unfold ixA at h
 have lit:∀ {k:IntKind} {j:Int} {E:Env} {v:Value},e y= .d (.c (.int k j))→RV E (e y) v→v= .int k j:=fun hz hv=>by rw [hz] at hv;simpa only [RV,RD] using hv
 split at h<;>try exact h.elim
 ·rename_i m off k j
  refine ⟨_,h.2,fun hG=>HD.val fun B E ρ h2 _=>?_⟩
  have g1:=h2 x (by simp [Op.operands,ho])
  have g2:=lit hy (h2 y (by simp [Op.operands,ho]))
  rw [hx] at g1
  simp only [RV] at g1
  obtain ⟨b,g3,g4⟩:=g1
  refine ⟨_,by simp only [execOp,ho,g2,g4,Sem.run_bind,run _ _ _ _ _ (h.1 hG).1 (h.1 hG).2];rfl,?_⟩
  simp only [RV]
  exact ⟨b,g3,rfl⟩
 ·rename_i sz d0 es i' off k j
  refine ⟨_,h.2,fun hG=>HD.val fun B E ρ h2 _=>?_⟩
  have g1:=h2 x (by simp [Op.operands,ho])
  have g2:=lit hy (h2 y (by simp [Op.operands,ho]))
  rw [hx] at g1
  simp only [RV] at g1
  obtain ⟨b,o',g3,g4⟩:=g1
  refine ⟨_,by simp only [execOp,ho,g2,g3,Sem.run_bind,run _ _ _ _ _ (h.1 hG).1 (h.1 hG).2];rfl,?_⟩
  simp only [RV]
  exact ⟨b,o',by rw [Nat.add_assoc],g4⟩
 ·rename_i ds k j
  refine ⟨_,h.2,fun hG=>HD.val fun B E ρ h2 _=>?_⟩
  have g1:=h2 x (by simp [Op.operands,ho])
  have g2:=lit hy (h2 y (by simp [Op.operands,ho]))
  rw [hx] at g1
  simp only [RV,RD] at g1
  obtain ⟨b,o',us,g3,g4,g5,g6⟩:=g1
  refine ⟨_,by simp only [execOp,ho,g2,g3,Sem.run_bind,run _ _ _ _ _ (h.1 hG).1 (h.1 hG).2];rfl,?_⟩
  simp only [RV,RD]
  refine ⟨b,_,us.drop j.toNat,rfl,g4.drop _,fun u hu=>g5 u (List.mem_of_mem_drop hu),fun i u hi=>?_⟩
  rw [List.getElem?_drop] at hi
  have:=g6 _ u hi
  rwa [← Nat.add_assoc] at this
theorem hd_bytes {s t el:Nat} (hs:P.underlying s=some .string) (ht:P.underlying t=some (.slice el)) (he:P.underlying el=some (.int .u8)) {x:Operand} (ho:o.op= .convert s t x) {b:ByteArray} (hx:e x= .d (.c (.string b))) (hlen:b.data.toList.length≤140737488351232):HD P o e st nm (.d (.sl 1 [.c (.int .u8 0)] (bytesD b))) none:=by
 intro B E ρ h1 _ h2 hlt hB hn
 have h3:=h1 x (by simp [Op.operands,ho])
 rw [hx] at h3
 simp only [RV,RD] at h3
 have hrun:=run_bytes_of_string (P:=P) E.w s t el b hs ht he
 obtain ⟨cap,hcap⟩:∃ cap,cap=grownCap E.w b.size 0 el:=⟨_,rfl⟩
 rw [← hcap] at hrun
 obtain ⟨w1,hw1⟩:∃ w1,w1=E.w.drew.alloc (.cells (bytesRow b cap) el ((bytesRow b cap).size,(bytesRow b cap).size+1)):=⟨_,rfl⟩
 rw [← hw1] at hrun
 have hb1:Below E.w.heap.size E.w w1:=by rw [hw1];exact ((Below.refl _ E.w).drew).alloc (Nat.le_refl _) _
 have hnew:w1.heap[E.w.heap.size]? =some (.cells (bytesRow b cap) el ((bytesRow b cap).size,(bytesRow b cap).size+1)):=by rw [hw1];exact heap_alloc_new _ _
 have hsz:w1.heap.size=E.w.heap.size+1:=by rw [hw1];simp
 let F':Ft:=⟨fun b' o'=>E.F.c b' o'∨b'=E.w.heap.size,E.F.m⟩
 have hcapl:b.size≤cap:=by rw [hcap];exact grownCap_ge _ _ _ _
 have hF:FtNew E.F F' E.w w1:=⟨⟨fun _ _ h=> .inl h,fun _ h=>h⟩,fun b' o' h=>h.imp id (fun h=>by subst h;omega),fun b' h=> .inl h⟩
 simp only [execOp,ho,h3,Sem.run_bind,hrun]
 refine ⟨⟨E.η,F',w1,E.dp⟩,rfl,⟨hb1,fun _ _=>rfl,hF,rfl⟩,?_,rfl⟩
 simp only [RV,RD]
 have hbl:b.size=(bytesD b).length:=by unfold bytesD;rw [List.length_map,Array.length_toList];rfl
 refine ⟨_,cap,by rw [hbl],by omega,by simpa [bytesD] using hlen,?_⟩
 have hus:RDL F' w1 (bytesD b).flatten (b.data.toList.map fun x=>Value.int .u8 (x.toNat:Int)):=by
  unfold bytesD
  generalize b.data.toList=l
  induction l with
  |nil=>simp [RDL]
  |cons c l ih=>simp only [List.map_cons,List.flatten_cons,List.cons_append,List.nil_append,RDL,RD];exact ⟨_,_,rfl,rfl,ih⟩
 refine RR.of_cells (b:=E.w.heap.size) (o:=0) hus (fun z hz=>by unfold bytesD at hz;obtain ⟨c,_,rfl⟩:=List.mem_map.1 hz;rfl) (fun u hu=>by obtain ⟨c,_,rfl⟩:=List.mem_map.1 hu;rfl) (fun j u hj=>⟨.inr rfl,?_⟩)
 have hjl:j < b.data.toList.length:=by
  have:=(List.getElem?_eq_some_iff.1 hj).1
  simpa using this
 simp only [World.cell?,hnew,Nat.zero_add]
 rw [show bytesRow b cap=(b.data.toList.map fun x=>Value.int .u8 (x.toNat:Int)).toArray++Array.replicate (cap - b.size) (.int .u8 0) by unfold bytesRow;rw [← Array.toList_map,Array.toArray_toList]]
 rw [Array.getElem?_append_left (by simpa using hjl)]
 simpa using hj
theorem ok_arr {t el n:Nat} {i:TyI} (ht:P.underlying t=some (.array n el)) (hi:TyOk P el i) (h1:i.sz=1) {x:Operand} (ho:o.op= .slice t x none none none) (h:arrK G n (zD i.z) K (e x)):Ok P G o e st nm K:=by
 refine Ok.of_none ?_
 have hal:P.underlying t=some (.array (P.arrayLen t) (P.elem t)):=by simp [Program.arrayLen,Program.elem,ht]
 have hel:P.elem t=el:=by simp [Program.elem,ht]
 have han:P.arrayLen t=n:=by simp [Program.arrayLen,ht]
 have run:∀ (w:World) (a:Addr),(Instr.sliceAt t (.pointer (some a)) none none none).run P w= .ok (.slice (some a) n n) w:=fun w a=>by
  rw [run_sliceAt_array_all w t a hal,hel,hi.sizeOf,han]
  simp [slicedAt,Result.andThen,Addr.add]
 generalize hx:e x=u at h
 unfold arrK at h
 split at h<;>try exact h.elim
 ·rename_i m off
  refine ⟨_,h,fun _=>HD.val fun B E ρ h2 _=>?_⟩
  have g1:=h2 x (by simp [Op.operands,ho])
  rw [hx] at g1
  simp only [RV] at g1
  obtain ⟨b,g2,g3⟩:=g1
  refine ⟨_,by simp only [execOp,ho,g3,Option.map_none,Sem.run_bind,run];rfl,?_⟩
  simp only [RV]
  exact ⟨b,n,g2,rfl⟩
 ·rename_i sz e0 es j off
  refine ⟨_,h.2,fun hG=>HD.val fun B E ρ h2 _=>?_⟩
  obtain ⟨hj,hn1,hn2⟩:=h.1 hG
  have g1:=h2 x (by simp [Op.operands,ho])
  rw [hx] at g1
  simp only [RV] at g1
  obtain ⟨b,o',g3,hr⟩:=g1
  have hge:es[j]? =some (es.getD j e0):=by simp [List.getD,hj]
  obtain ⟨b',o'',us,k1,k2,k3,k4,k5⟩:=hr.get hge
  cases k1
  have hl:((((es.getD j e0).drop off).take n).map fun d=>[d]).length=n:=by rw [List.length_map,List.length_take];omega
  refine ⟨_,by simp only [execOp,ho,g3,Option.map_none,Sem.run_bind,run];rfl,?_⟩
  simp only [RV,RD]
  refine ⟨_,n,by rw [hl],by omega,by omega,?_⟩
  have hfl:((((es.getD j e0).drop off).take n).map fun d=>[d]).flatten=((es.getD j e0).drop off).take n:=by
   generalize ((es.getD j e0).drop off).take n=l
   induction l with
   |nil=>rfl
   |cons d l ih=>simp [ih]
  refine RR.of_cells (us:=(us.drop off).take n) (by rw [hfl];exact (k2.drop off).take n) (fun z hz=>by obtain ⟨c,_,rfl⟩:=List.mem_map.1 hz;rfl) (fun u hu=>k4 u (List.mem_of_mem_drop (List.mem_of_mem_take hu))) (fun i u hi=>?_)
  rw [List.getElem?_take] at hi
  split at hi
  ·rw [List.getElem?_drop] at hi
   have:=k5 _ u hi
   rw [show o'+0+j * sz+(off+i)=o'+j * sz+off+0+i by omega] at this
   exact this
  ·cases hi
 ·rename_i ds
  refine ⟨_,h.2,fun _=>HD.val fun B E ρ h2 _=>?_⟩
  have g1:=h2 x (by simp [Op.operands,ho])
  rw [hx] at g1
  simp only [RV,RD] at g1
  obtain ⟨b,o',us,g3,g4,g5,g6⟩:=g1
  have hl:((ds.take n).map fun d=>[d]).length=n:=by simp;omega
  refine ⟨_,by simp only [execOp,ho,g3,Option.map_none,Sem.run_bind,run];rfl,?_⟩
  simp only [RV,RD]
  refine ⟨_,n,by rw [hl],by omega,by omega,?_⟩
  have hfl:((ds.take n).map fun d=>[d]).flatten=ds.take n:=by
   generalize ds.take n=l
   induction l with
   |nil=>rfl
   |cons d l ih=>simp [ih]
  refine RR.of_cells (us:=us.take n) (by rw [hfl];exact g4.take n) (fun z hz=>by obtain ⟨c,_,rfl⟩:=List.mem_map.1 hz;rfl) (fun u hu=>g5 u (List.mem_of_mem_take hu)) (fun j u hj=>?_)
  rw [List.getElem?_take] at hj
  split at hj
  ·simpa using g6 j u hj
  ·cases hj
theorem hop_ok (hT:TabOk P T) (h:hop P T G o.op e st nm K):Ok P G o e st nm K:=by
 unfold hop at h
 generalize ho:o.op=op at h
 cases op<;>simp only at h<;>try exact h.elim
 case move x=>exact ⟨_,none,h,fun _=>hd_move ho⟩
 case assign x=>exact ⟨_,none,h,fun _=>hd_assign ho⟩
 case pick c x y=>exact ok_pick ho h
 case alloc t=>
  split at h<;>try exact h.elim
  rename_i i hi
  exact ⟨_,_,h.2,fun _=>hd_alloc (ty_ok hT hi) ho h.1⟩
 case build t parts=>
  split at h<;>try exact h.elim
  ·rename_i fs sz z bt hi
   split at h<;>try exact h.elim
   rename_i cs hf
   exact ⟨_,none,h.2,fun _=>hd_build (ty_ok hT hi) ho hf h.1⟩
  ·rename_i n el sz z bt hi
   split at h<;>try exact h.elim
   rename_i kd z' bt' hel
   split at h<;>try exact h.elim
   rename_i cs hf
   exact ⟨_,none,h.2,fun _=>hd_buildA (ty_ok hT hi) (ty_ok hT hel) ho hf h.1⟩
 case load t x=>
  split at h<;>try exact h.elim
  rename_i i hi
  exact ok_ld (ty_ok hT hi) ho h
 case binOp op xt x y yt=>exact ok_bin hT ho h
 case unOp op t x=>
  split at h<;>simp_all
  exact ok_not ho h
 case convert s t x=>
  have int:∀ {t:Nat} {k:IntKind},tyInt T t=some k→P.underlying t=some (.int k):=fun {t k} hk=>by
   unfold tyInt at hk
   split at hk<;>try (cases hk;done)
   rename_i k' sz z bt ht
   cases hk
   exact (ty_ok hT ht).2
  split at h
  ·rename_i k hk
   split at h<;>try exact h.elim
   rename_i j hs
   exact ok_cv (ty_ok hT hs) (int hk) ho h
  ·split at h<;>try exact h.elim
   ·rename_i el sz z bt sz' z' bt' hs ht
    exact ok_str (ty_ok hT hs).2 (int h.1) (ty_ok hT ht).2 ho h.2
   ·rename_i sz z bt el sz' z' bt' hs ht
    obtain ⟨h0,h⟩:=h
    refine Ok.of_none ?_
    generalize hx:e x=u at h
    unfold bytK at h
    split at h<;>try exact h.elim
    exact ⟨_,h.2,fun hG=>hd_bytes (ty_ok hT hs).2 (ty_ok hT ht).2 (int h0) ho hx (h.1 hG)⟩
 case nilCheck x=>exact ok_nil ho h
 case index t x y=>
  split at h<;>try exact h.elim
  ·rename_i n el sz z bt hi1
   split at h<;>try exact h.elim
   rename_i kd z' bt' hi2
   exact ok_index (ty_ok hT hi1).2 (ty_ok hT hi2) rfl h.1 ho h.2
  ·rename_i sz z bt hi1
   exact ok_strIx (ty_ok hT hi1).2 ho h
 case fieldAddr s x f=>
  split at h<;>try exact h.elim
  rename_i fs sz z bt hi
  split at h<;>try exact h.elim
  rename_i d s' hf
  obtain ⟨v,h1,h2⟩:=hd_fieldAddr (st:=st) (nm:=nm) (ty_ok hT hi) hf h.1 ho h.2
  exact ⟨v,none,h1,fun _=>h2⟩
 case indexAddr t x y=>
  split at h<;>try exact h.elim
  ·rename_i el sz z bt hi
   split at h<;>try exact h.elim
   rename_i i hi2
   exact ok_ix (ty_ok hT hi).2 (ty_ok hT hi2) ho h
  ·rename_i n el sz z bt hi
   split at h<;>try exact h.elim
   rename_i kd z' bt' hi2
   exact ok_ixA (ty_ok hT hi).2 (ty_ok hT hi2) rfl ho h
 case extract x i=>exact ok_ex ho h
 case field s x f=>
  split at h<;>try exact h.elim
  rename_i fs sz z bt cs hi hx
  split at h<;>try exact h.elim
  rename_i d sz1 hf
  split at h<;>try exact h.elim
  rename_i c hc
  rw [List.head?_drop] at hc
  exact ⟨_,none,h.2,fun _=>hd_field (ty_ok hT hi) hf ho hx hc h.1⟩
 case makeMap t r=>
  cases r<;>simp only at h<;>try exact h.elim
  split at h<;>try exact h.elim
  split at h<;>try exact h.elim
  split at h<;>try exact h.elim
  exact ⟨_,_,h.2,fun _=>hd_makeMap ho h.1⟩
 case lookup t m x b=>
  split at h<;>try exact h.elim
  rename_i k el sz z bt hi1
  split at h<;>try exact h.elim
  rename_i i hi2
  exact ok_look (ty_ok hT hi1).2 (ty_ok hT hi2) ho h
 case box t x=>
  split at h<;>try exact h.elim
  rename_i cs hc
  exact ⟨_,_,h,fun _=>hd_box ho hc⟩
 case slice t x lo hi mx=>
  cases mx with
  |none=>
    simp only at h
    split at h<;>try exact h.elim
    ·rename_i el sz z bt hi1
     split at h<;>try exact h.elim
     rename_i i sz' d0 es hi2 hx
     exact hd_cut (ty_ok hT hi1).2 (ty_ok hT hi2) ho hx h.1 h.2
    ·rename_i n el sz z bt hi1
     split at h<;>try exact h.elim
     rename_i kd z' bt' hi2
     exact ok_arr (ty_ok hT hi1).2 (ty_ok hT hi2) rfl ho h
  |some mm=>
    cases lo with
    |some _=>simp only at h
    |none=>
    cases hi with
    |none=>simp only at h
    |some hh=>
    simp only at h
    split at h<;>try exact h.elim
    rename_i el sz z bt hi1
    split at h<;>try exact h.elim
    rename_i i sz' d0 es k a k' b hi2 hx ha hb
    exact ⟨_,none,h.2.2,fun hG=>hd_clip (ty_ok hT hi1).2 (ty_ok hT hi2) ho hx h.1 ha hb (h.2.1 hG).1 (h.2.1 hG).2.1 (h.2.1 hG).2.2⟩
 case buildSlice t len parts=>
  split at h<;>try exact h.elim
  rename_i el sz z bt hi1
  split at h<;>try exact h.elim
  rename_i i hi2
  split at h<;>try exact h.elim
  ·rename_i es hr
   exact ⟨_,_,h.2,fun _=>hd_buildSlice (ty_ok hT hi1).2 (ty_ok hT hi2) ho hr h.1.1 h.1.2.1 h.1.2.2.1 h.1.2.2.2⟩
  split at h<;>try exact h.elim
  rename_i es hr
  exact ⟨_,_,h.2,fun _=>hd_buildSliceW (ty_ok hT hi1).2 (ty_ok hT hi2) ho hr h.1.1 h.1.2.1 h.1.2.2.1 h.1.2.2.2⟩
 case makeSlice t l c=>
  split at h<;>try exact h.elim
  rename_i el sz z bt hi1
  split at h<;>try exact h.elim
  rename_i i k a k' b hi2 hl hc
  exact ⟨_,_,h.2.2,fun hG=>hd_makeSlice (ty_ok hT hi1).2 (ty_ok hT hi2) ho hl hc (h.1 hG).1 (h.1 hG).2.1 (h.1 hG).2.2.1 (h.1 hG).2.2.2 h.2.1.1 h.2.1.2.1 h.2.1.2.2⟩
 case makeFunc fn fs cs=>
  cases fn<;>simp only at h<;>try exact h.elim
  split at h<;>try exact h.elim
  ·rename_i hfs
   have e1:fs= #[]:=by rw [← Array.toArray_toList (xs:=fs),hfs]
   subst e1
   exact ⟨_,none,h,fun _=>hd_makeFunc ho⟩
  ·rename_i hcs
   have e1:cs= #[]:=by rw [← Array.toArray_toList (xs:=cs),hcs]
   subst e1
   exact ⟨_,none,h,fun _=>hd_makeMeth ho⟩
 case call c=>
  split at h<;>try exact h.elim
  ·rename_i hc;exact ok_bi hT ho hc h
  ·rename_i hc;exact ok_call ho (.inl hc) h
  ·rename_i t hc
   unfold sloK at h
   split at h<;>try exact h.elim
   rename_i f fst cap he
   obtain ⟨⟨rfl,rfl⟩,h⟩:=h
   exact ok_call ho (.inr ⟨t,hc,he⟩) h
end

section
variable {P:Program} {B:Base} {E E':Env} {nm n:Nat}
theorem okB.keep {b:Nat} {p:Nat→Prop} (h:okB B E b p) (hs:E.w.heap.size≤E'.w.heap.size) (hF:FtNew E.F E'.F E.w E'.w):okB B E' b p:=
 ⟨h.1,Nat.lt_of_lt_of_le h.2.1 hs,fun hm=>(hF.m b hm).elim h.2.2.1 (fun h2=>by have:=h.2.1;omega),fun o ho=>(hF.c b o ho).elim (h.2.2.2 o) (fun h2=>by have:=h.2.1;omega)⟩
theorem RBk.keep {x:Blk} (h:RBk P B E n x) (hη:∀ v,E.η n=some v→E'.η n=some v) (he:Ext E E') (hs:E.w.heap.size≤E'.w.heap.size) (hb:∀ v b,E.η n=some v→hb v=some b→b < E.w.heap.size→E'.w.heap[b]? =E.w.heap[b]?)
  (hok:∀ v b p,E.η n=some v→Go.Proofs.YthidfoohhhkobaaGreat.hb v=some b→okB B E b p→okB B E' b p):RBk P B E' n x:=by
 cases x with
 |cells t cs=>
   obtain ⟨b,us,h1,h2,h3,h4,h5⟩:=h
   exact ⟨b,us,hη _ h1,(hb _ _ h1 rfl h5.2.1).trans h2,RVL.mono he _ _ h3,h4,hok _ _ _ h1 rfl h5⟩
 |tok e sz len=>
   obtain ⟨v,us,h1,h2,h3⟩:=h
   refine ⟨v,us,hη _ h1,⟨h2.1,?_⟩,fun b hb'=>hok _ _ _ h1 hb' (h3 b hb')⟩
   rcases h2.2 with hn|⟨g,cap,cur,rfl,h4,h5,h6⟩
   ·exact .inl hn
   ·exact .inr ⟨g,cap,cur,rfl,h4,(hb _ g h1 rfl (h3 g rfl).2.1).trans h5,h6⟩
 |row e sz d0 es=>
   obtain ⟨v,us,h1,h2,h3,h4,h5,h6,h7⟩:=h
   refine ⟨v,us,hη _ h1,⟨h2.1,?_⟩,RVL.mono he _ _ h3,h4,h5,h6,fun b hb'=>hok _ _ _ h1 hb' (h7 b hb')⟩
   rcases h2.2 with hn|⟨g,cap,cur,rfl,k4,k5,k6⟩
   ·exact .inl hn
   ·exact .inr ⟨g,cap,cur,rfl,k4,(hb _ g h1 rfl (h7 g rfl).2.1).trans k5,k6⟩
 |map q k zv z0 es=>
   obtain ⟨b,ms,clock,h1,h2,h3,h4,h5,h6⟩:=h
   exact ⟨b,ms,clock,hη _ h1,(hb _ _ h1 rfl h6.2.1).trans h2,h3.mono he,h4,⟨RV.mono he _ _ h5.1,h5.2⟩,hok _ _ _ h1 rfl h6⟩
 |loop L st pe=>
   obtain ⟨b,rec,h1,h2,h3,h6⟩:=h
   exact ⟨b,rec,hη _ h1,(hb _ _ h1 rfl h6.2.1).trans h2,h3,hok _ _ _ h1 rfl h6⟩
 |raw b o=>
   obtain ⟨v,h1,h2,h3,h4,h5⟩:=h
   exact ⟨v,hη _ h1,h2,(hb _ _ h1 h2 h5.2.1).trans h3,h4,hok _ _ _ h1 h2 h5⟩
theorem RBk.blk {x:Blk} (h:RBk P B E n x) {v:Value} {b:Nat} (hv:E.η n=some v) (hb':hb v=some b):∃ p,okB B E b p:=by
 cases x with
 |cells t cs=>obtain ⟨b',us,h1,_,_,_,h5⟩:=h;rw [hv] at h1;cases h1;cases hb';exact ⟨_,h5⟩
 |tok e sz len=>obtain ⟨v',us,h1,h2,h3⟩:=h;rw [hv] at h1;cases h1;exact ⟨_,h3 b hb'⟩
 |row e sz d0 es=>obtain ⟨v',us,h1,_,_,_,_,_,h7⟩:=h;rw [hv] at h1;cases h1;exact ⟨_,h7 b hb'⟩
 |map q k zv z0 es=>obtain ⟨b',ms,clock,h1,_,_,_,_,h6⟩:=h;rw [hv] at h1;cases h1;cases hb';exact ⟨_,h6⟩
 |loop L st pe=>obtain ⟨b',rec,h1,_,_,h6⟩:=h;rw [hv] at h1;cases h1;cases hb';exact ⟨_,h6⟩
 |raw b' o=>obtain ⟨v',h1,h2,_,_,h5⟩:=h;rw [hv] at h1;cases h1;rw [hb'] at h2;cases h2;exact ⟨_,h5⟩
theorem RBk.nodp {x:Blk} (h:RBk P B E n x) {v:Value} {b:Nat} (hv:E.η n=some v) (hb':hb v=some b):E.w.heap[b]?≠some (.deferred (some [])):=by
 have row:∀ {e sz len us},E.w.ownsRow 0 e sz v len us→E.w.heap[b]?≠some (.deferred (some [])):=fun h=>by
  rcases h.2 with ⟨rfl,_⟩|⟨g,cap,cur,rfl,_,h3,_⟩
  ·cases hb'
  ·cases hb';rw [h3];simp
 cases x with
 |cells t cs=>obtain ⟨b',us,h1,h2,_⟩:=h;rw [hv] at h1;cases h1;cases hb';rw [h2];simp
 |tok e sz len=>obtain ⟨v',us,h1,h2,h3⟩:=h;rw [hv] at h1;cases h1;exact row h2
 |row e sz d0 es=>obtain ⟨v',us,h1,h2,_⟩:=h;rw [hv] at h1;cases h1;exact row h2
 |map q k zv z0 es=>obtain ⟨b',ms,clock,h1,h2,_⟩:=h;rw [hv] at h1;cases h1;cases hb';rw [h2];simp
 |loop L st pe=>obtain ⟨b',rec,h1,h2,_⟩:=h;rw [hv] at h1;cases h1;cases hb';rw [h2];simp
 |raw b' o=>obtain ⟨v',h1,h2,h3,h4,_⟩:=h;rw [hv] at h1;cases h1;rw [hb'] at h2;cases h2;rw [h3];simpa using h4
theorem GamS.lt {σ:Nat→Option Blk} {fr:Nat→Prop} (h:GamS P B σ fr E):E.F.lt E.w:=⟨fun b o hb=>(h.Fc b o hb).2,fun b hb=>(h.Fm b hb).2⟩
theorem GamS.head {σ σ':Nat→Option Blk} {fr fr':Nat→Prop} {x:Option Blk} (h:GamS P B σ fr E) (hs:HStep E E' nm) (hx:NewB P B E E' nm x) (hn:fr nm) (hσ:∀ n,σ' n=if n=nm then (match x with|some y=>some y|none=>σ nm) else σ n) (hσn:σ nm=none)
  (hfr:∀ n,fr' n→fr n∧(x.isSome=true→n≠nm)):GamS P B σ' fr' E':=by
 have hext:=hs.ext h.lt (h.fresh nm hn)
 have hF:∀ b,b < E.w.heap.size→E'.w.heap[b]? =E.w.heap[b]?:=fun b hb=>hs.by_.block b hb
 have old:∀ m y,m≠nm→σ' m=some y→σ m=some y:=fun m y hm hy=>by rw [hσ,if_neg hm] at hy;exact hy
 have atn:∀ y,σ' nm=some y→x=some y:=fun y hy=>by
  rw [hσ,if_pos rfl] at hy
  cases x with
  |none=>simp only [hσn] at hy;cases hy
  |some z=>simpa using hy
 refine ⟨hs.by_.os.trans h.os,hs.by_.tape.trans h.tape,hs.by_.output.trans h.output,Nat.le_trans h.size hs.by_.size,fun b hb hS=>(hF b (Nat.lt_of_lt_of_le hb h.size)).trans (h.old b hb hS),Ft.le_trans h.F0 hs.F.le,fun b o hb=>?_,fun b hb=>?_,fun m y hy=>?_,?_,fun m hm=>?_,fun D hD=>?_⟩
 ·rcases hs.F.c b o hb with h1|h1
  ·have:=h.Fc b o h1;exact ⟨this.1,Nat.lt_of_lt_of_le this.2 hs.by_.size⟩
  ·exact ⟨.inr (.inl (Nat.le_trans h.size h1.1)),h1.2⟩
 ·rcases hs.F.m b hb with h1|h1
  ·have:=h.Fm b h1;exact ⟨this.1,Nat.lt_of_lt_of_le this.2 hs.by_.size⟩
  ·exact ⟨.inr (.inl (Nat.le_trans h.size h1.1)),h1.2⟩
 ·by_cases hm:m=nm
  ·subst hm
   have:=atn y hy
   subst this
   obtain ⟨v,h1,_,h3⟩:=hx
   exact h3
  ·have h1:=h.st m y (old m y hm hy)
   exact h1.keep (fun v hv=>by rw [hs.η m hm];exact hv) hext hs.by_.size (fun v b _ _ hlt=>hF b hlt) (fun v b p _ _ hok=>hok.keep hs.by_.size hs.F)
 ·intro i j p q b v u hij hp hq hv hu hbv hbu
  by_cases hi:i=nm
  ·subst hi
   have:=atn p hp
   subst this
   obtain ⟨v',h1,h2,_⟩:=hx
   rw [hv] at h1
   cases h1
   have h4:=h2 b hbv
   have hj:j≠i:=fun e=>hij e.symm
   rw [hs.η j hj] at hu
   obtain ⟨pp,hok⟩:=(h.st j q (old j q hj hq)).blk hu hbu
   have:=hok.2.1
   omega
  ·by_cases hj:j=nm
   ·subst hj
    have:=atn q hq
    subst this
    obtain ⟨v',h1,h2,_⟩:=hx
    rw [hu] at h1
    cases h1
    have h4:=h2 b hbu
    rw [hs.η i hi] at hv
    obtain ⟨pp,hok⟩:=(h.st i p (old i p hi hp)).blk hv hbv
    have:=hok.2.1
    omega
   ·rw [hs.η i hi] at hv
    rw [hs.η j hj] at hu
    exact h.dist i j p q b v u hij (old i p hi hp) (old j q hj hq) hv hu hbv hbu
 ·obtain ⟨h1,h2⟩:=hfr m hm
  by_cases hmn:m=nm
  ·subst hmn
   cases x with
   |none=>simp only [NewB] at hx;rw [hx];exact h.fresh m h1
   |some y=>exact (h2 rfl rfl).elim
  ·rw [hs.η m hmn];exact h.fresh m h1
 ·rw [hs.dp] at hD
  obtain ⟨d1,d2,d3,d4⟩:=h.dp D hD
  have hlt:D < E.w.heap.size:=(Array.getElem?_eq_some_iff.1 d1).1
  exact ⟨(hF D hlt).trans d1,d2,fun hm=>(hs.F.m D hm).elim d3 (fun h2=>by have:=h2.1;omega),fun o ho=>(hs.F.c D o ho).elim (d4 o) (fun h2=>by have:=h2.1;omega)⟩
end
def setT (t:Nat) (v:V):List (Nat×V)→List (Nat×V)
 |[]=>[(t,v)]
 |(u,x) :: l=>if t=u then (u,v) :: l else (u,x) :: setT t v l
theorem lkT_setT (t u:Nat) (v:V):∀ (l:List (Nat×V)),lkT (setT t v l) u=if u=t then v else lkT l u
 |[]=>by simp [setT,lkT]
 |(k,x) :: l=>by
   have ih:=lkT_setT t u v l
   unfold setT
   by_cases h:t=k
   ·rw [if_pos h];subst h;simp only [lkT];by_cases h2:u=t<;>simp [h2]
   ·rw [if_neg h]
    simp only [lkT,ih]
    by_cases h2:u=k
    ·have h3:¬ u=t:=fun e=>h (e.symm.trans h2)
     simp [h2,h3,Ne.symm h]
    ·simp [h2]
def setB (t:Nat) (v:Blk):List (Nat×Blk)→List (Nat×Blk)
 |[]=>[(t,v)]
 |(u,x) :: l=>if t=u then (u,v) :: l else (u,x) :: setB t v l
theorem lkB_setB (t u:Nat) (v:Blk):∀ (l:List (Nat×Blk)),lkB (setB t v l) u=if u=t then some v else lkB l u
 |[]=>by simp [setB,lkB]
 |(k,x) :: l=>by
   have ih:=lkB_setB t u v l
   unfold setB
   by_cases h:t=k
   ·rw [if_pos h];subst h;simp only [lkB];by_cases h2:u=t<;>simp [h2]
   ·rw [if_neg h]
    simp only [lkB,ih]
    by_cases h2:u=k
    ·have h3:¬ u=t:=fun e=>h (e.symm.trans h2)
     simp [h2,h3,Ne.symm h]
    ·simp [h2]
def delB (t:Nat):List (Nat×Blk)→List (Nat×Blk)
 |[]=>[]
 |(u,x) :: l=>if t=u then delB t l else (u,x) :: delB t l
theorem lkB_delB (t u:Nat):∀ (l:List (Nat×Blk)),lkB (delB t l) u=if u=t then none else lkB l u
 |[]=>by simp [delB,lkB]
 |(k,x) :: l=>by
   have ih:=lkB_delB t u l
   unfold delB
   by_cases h:t=k
   ·rw [if_pos h,ih];subst h;simp only [lkB];by_cases h2:u=t<;>simp [h2]
   ·rw [if_neg h]
    simp only [lkB,ih]
    by_cases h2:u=k
    ·have h3:¬ u=t:=fun e=>h (e.symm.trans h2)
     simp [h2,h3,Ne.symm h]
    ·simp [h2]
def put (d:Option Tmp) (v:V) (l:List (Nat×V)):List (Nat×V):=match d with
 |some t=>setT t v l
 |none=>l
section
variable {P:Program} {B:Base} {E E':Env} {a:Act}
theorem GamT.ext {tm:Nat→V} (h:GamT B tm E a) (he:Ext E E') (hd:E'.dp=E.dp):GamT B tm E' a:=⟨fun t=>RV.mono he _ _ (h.tm t),by rw [hd];exact h.defers,h.size⟩
theorem vOf_put {d:Option Tmp} {u:Value} (hs:a.tmps.size=B.N) (hd:∀ t,d=some t→t < B.N) (k:Nat):vOf B (a.put d u) k=if d=some k then u else vOf B a k:=by
 cases d with
 |none=>rw [if_neg (by simp)];rfl
 |some t=>
   have ht:=hd t rfl
   unfold vOf
   by_cases hk:k=t
   ·subst hk
    rw [if_pos ht,if_pos rfl]
    simp [Act.put,Array.getD_eq_getD_getElem?,hs,ht]
   ·have hk':¬ some t=some k:=fun e=>hk (by injection e with e;exact e.symm)
    rw [if_neg hk']
    by_cases hkN:k < B.N
    ·rw [if_pos hkN,if_pos hkN]
     simp [Act.put,Array.getD_eq_getD_getElem?,Array.getElem?_setIfInBounds,Ne.symm hk]
    ·rw [if_neg hkN,if_neg hkN]
theorem GamT.put {l:List (Nat×V)} {d:Option Tmp} {v:V} {u:Value} (h:GamT B (lkT l) E a) (hu:RV E v u) (hd:∀ t,d=some t→t < B.N):GamT B (lkT (Go.Proofs.YthidfoohhhkobaaGreat.put d v l)) E (a.put d u):=by
 cases d with
 |none=>exact h
 |some t=>
   have ht:=hd t rfl
   refine ⟨fun k=>?_,h.defers,by simp [Act.put,h.size]⟩
   simp only [Go.Proofs.YthidfoohhhkobaaGreat.put,lkT_setT]
   rw [vOf_put h.size hd]
   by_cases hk:k=t
   ·subst hk
    rw [if_pos rfl,if_pos rfl]
    exact hu
   ·rw [if_neg hk,if_neg (fun e=>hk (by injection e with e;exact e.symm))]
    exact h.tm k
def ev (tm:Nat→V):Operand→V
 | .tmp t=>tm t
 | .const v=>ofC v
 | .func f=> .d (.c (.func (.func f) #[] #[]))
 | .global _=> .any
theorem ofC_ok (E:Env) (v:Value) (h:∀ cs,v= .agg cs→(cs.toList.all fun u=>u.oneCell')=true):RV E (ofC v) v:=by
 cases v<;>simp only [ofC,RV,RD]
 rename_i cs
 refine ⟨cs.toList,by simp,RVL.of_data ?_,fun u hu=>List.all_eq_true.1 (h cs rfl) u hu⟩
 generalize cs.toList=l
 induction l with
 |nil=>simp [RDL]
 |cons u l ih=>simp only [List.map_cons,RDL,RD];exact ⟨u,l,rfl,rfl,ih⟩
def constOk (N:Nat):Operand→Bool
 | .tmp t=>decide (t < N)
 | .const (.agg cs)=>cs.toList.all fun u=>u.oneCell'
 |_=>true
theorem ev_ok {tm:Nat→V} (h:GamT B tm E a) (x:Operand) (hc:constOk B.N x=true):RV E (ev tm x) (a.eval x):=by
 cases x with
 |tmp t=>
   have:=h.tm t
   have ht:t < B.N:=by simpa [constOk] using hc
   unfold vOf at this
   rw [if_pos ht] at this
   exact this
 |const v=>exact ofC_ok E v (fun cs e=>by subst e;exact hc)
 |func f=>simp only [ev,RV,RD];rfl
 |global g=>simp only [ev,RV]
end

theorem setCells_facts (b:Nat):∀ (vs:List Value) (o:Nat) (w:World),(w.setCells b o vs).os=w.os∧(w.setCells b o vs).tape=w.tape∧(w.setCells b o vs).output=w.output∧(w.setCells b o vs).heap.size=w.heap.size∧∀ i,i≠b→(w.setCells b o vs).heap[i]? =w.heap[i]?
 |[],o,w=>⟨rfl,rfl,rfl,rfl,fun _ _=>rfl⟩
 |v :: vs,o,w=>by
   obtain ⟨h1,h2,h3,h4,h5⟩:=setCells_facts b vs (o+1) (w.setCell ⟨b,o,none⟩ v)
   refine ⟨h1,h2,h3,by rw [World.setCells,h4];simp [World.setCell],fun i hi=>?_⟩
   rw [World.setCells,h5 i hi]
   exact Below.heap_setCell _ _ _ _ (by exact hi)
theorem setCells_at (b:Nat) (t:TypeId):∀ (vs:List Value) (o:Nat) (w:World) (cur:Array Value),w.heap[b]? =some (.cells cur t (0,0))→
  ∃ arr:Array Value,(w.setCells b o vs).heap[b]? =some (.cells arr t (0,0))∧arr.size=cur.size∧∀ m,arr[m]? =if o≤m∧m < o+vs.length∧m < cur.size then vs[m - o]? else cur[m]?
 |[],o,w,cur,h=>⟨cur,h,rfl,fun m=>by rw [if_neg (by simp;omega)]⟩
 |v :: vs,o,w,cur,h=>by
   obtain ⟨arr,h1,h2,h3⟩:=setCells_at b t vs (o+1) (w.setCell ⟨b,o,none⟩ v) (cur.setIfInBounds o v) (heap_setCell_same w b o cur t v h)
   refine ⟨arr,h1,by simpa using h2,fun m=>?_⟩
   rw [h3,Array.size_setIfInBounds,Array.getElem?_setIfInBounds]
   by_cases hm:m=o
   ·subst hm
    rw [if_neg (by omega),if_pos rfl]
    by_cases h4:m < cur.size
    ·rw [if_pos h4,if_pos (by simp;omega)];simp
    ·rw [if_neg h4,if_neg (by simp;omega)];exact (Array.getElem?_eq_none (by omega)).symm
   ·by_cases h4:o+1≤m∧m < o+1+vs.length∧m < cur.size
    ·rw [if_pos h4,if_pos (by simp;omega),show m - o=(m - (o+1))+1 by omega,List.getElem?_cons_succ]
    ·rw [if_neg h4,if_neg (fun e=>hm e.symm),if_neg (by simp;omega)]
theorem setCells_splice {b:Nat} {t:TypeId} {vs us:List Value} {o:Nat} {w:World} (h:w.heap[b]? =some (.cells us.toArray t (0,0))) (hl:o+vs.length≤us.length):(w.setCells b o vs).heap[b]? =some (.cells (spliceU us o vs).toArray t (0,0)):=by
 obtain ⟨arr,h1,h2,h3⟩:=setCells_at b t vs o w us.toArray h
 rw [h1]
 congr 2
 refine Array.ext_getElem? fun m=>?_
 rw [h3]
 simp only [spliceU,List.getElem?_toArray,List.size_toArray]
 by_cases k1:m < o
 ·rw [if_neg (by omega),List.append_assoc,List.getElem?_append_left (by simp;omega),List.getElem?_take,if_pos k1]
 ·by_cases k2:m < o+vs.length
  ·rw [if_pos (by omega),List.append_assoc,List.getElem?_append_right (by simp;omega),List.length_take,Nat.min_eq_left (by omega),List.getElem?_append_left (by omega)]
  ·rw [if_neg (by omega),List.getElem?_append_right (by simp;omega),List.getElem?_drop,List.length_append,List.length_take,Nat.min_eq_left (by omega)]
   congr 1;omega
theorem spliceU_get {us vs:List Value} {o:Nat} (h:o+vs.length≤us.length) (m:Nat):(spliceU us o vs)[m]? =if m < o then us[m]? else if m < o+vs.length then vs[m - o]? else us[m]?:=by
 unfold spliceU
 by_cases k1:m < o
 ·rw [if_pos k1,List.append_assoc,List.getElem?_append_left (by simp;omega),List.getElem?_take,if_pos k1]
 ·rw [if_neg k1]
  by_cases k2:m < o+vs.length
  ·rw [if_pos k2,List.append_assoc,List.getElem?_append_right (by simp;omega),List.length_take,Nat.min_eq_left (by omega),List.getElem?_append_left (by omega)]
  ·rw [if_neg k2,List.getElem?_append_right (by simp;omega),List.getElem?_drop,List.length_append,List.length_take,Nat.min_eq_left (by omega)]
   congr 1;omega
theorem spliceU_take {us vs:List Value} {o n:Nat} (h:o+vs.length≤n) (hn:n≤us.length):(spliceU us o vs).take n=spliceU (us.take n) o vs:=by
 refine List.ext_getElem? fun m=>?_
 rw [List.getElem?_take,spliceU_get (by omega),spliceU_get (by simp;omega),List.getElem?_take]
 by_cases hm:m < n
 ·simp only [if_pos hm]
 ·rw [if_neg hm,if_neg (by omega),if_neg (by omega),if_neg hm]
theorem spliceU_left {us vs:List Value} {o n:Nat} (h:o+vs.length≤n) (hn:n≤us.length):spliceU us o vs=spliceU (us.take n) o vs++us.drop n:=by
 have h1:=spliceU_take h hn
 rw [← h1]
 have h2:us.drop n=(spliceU us o vs).drop n:=by
  refine List.ext_getElem? fun m=>?_
  rw [List.getElem?_drop,List.getElem?_drop,spliceU_get (by omega),if_neg (by omega),if_neg (by omega)]
 rw [h2,List.take_append_drop]
theorem spliceU_right {us vs:List Value} {o n:Nat} (h:n+o+vs.length≤us.length):spliceU us (n+o) vs=us.take n++spliceU (us.drop n) o vs:=by
 refine List.ext_getElem? fun m=>?_
 rw [spliceU_get h]
 by_cases hm:m < n
 ·rw [if_pos (by omega),List.getElem?_append_left (by simp;omega),List.getElem?_take,if_pos hm]
 ·rw [List.getElem?_append_right (by simp;omega),List.length_take,Nat.min_eq_left (by omega),spliceU_get (by simp;omega),List.getElem?_drop]
  by_cases k1:m < n+o
  ·rw [if_pos k1,if_pos (by omega)];congr 1;omega
  ·by_cases k2:m < n+o+vs.length
   ·rw [if_neg k1,if_pos k2,if_neg (show ¬ m - n < o by omega),if_pos (show m - n < o+vs.length by omega)];congr 1;omega
   ·rw [if_neg k1,if_neg k2,if_neg (show ¬ m - n < o by omega),if_neg (show ¬ m - n < o+vs.length by omega)];congr 1;omega
theorem storeVar_agg {P:Program} (t:TypeId) (a:Addr) (v:Value):(storeVar t a v)=(storeVar t a (.agg v.cells)):=rfl
section
variable {P:Program} {B:Base} {E E':Env} {σ σ':Nat→Option Blk} {fr:Nat→Prop} {n b:Nat}
theorem GamS.write {x x':Blk} {w':World} (h:GamS P B σ fr E) (hn:σ n=some x) (hσ:∀ m,σ' m=if m=n then some x' else σ m) {v:Value} (hv:E.η n=some v) (hbv:hb v=some b) (hp:∀ o,¬ E.F.c b o)
  (h1:w'.os=E.w.os) (h2:w'.tape=E.w.tape) (h3:w'.output=E.w.output) (h4:w'.heap.size=E.w.heap.size) (h5:∀ i,i≠b→w'.heap[i]? =E.w.heap[i]?) (hx:∀ E',E'=Env.mk E.η E.F w' E.dp→Ext E E'→okB B E' b (fun _=>False)→RBk P B E' n x'):
  GamS P B σ' fr ⟨E.η,E.F,w',E.dp⟩∧Ext E ⟨E.η,E.F,w',E.dp⟩:=by
 obtain ⟨p,hok⟩:=(h.st n x hn).blk hv hbv
 have hext:Ext E ⟨E.η,E.F,w',E.dp⟩:=⟨fun _ _ h=>h,Ft.le_refl _,.of_blocks (fun i o hi=>h5 i (fun e=>by subst e;exact hp o hi)) (fun i hi=>h5 i (fun e=>by subst e;exact hok.2.2.1 hi))⟩
 refine ⟨⟨h1.trans h.os,h2.trans h.tape,h3.trans h.output,by show _≤w'.heap.size;rw [h4];exact h.size,fun i hi hS=>?_,h.F0,fun i o hi=>?_,fun i hi=>?_,fun m y hy=>?_,?_,h.fresh,fun D hD=>?_⟩,hext⟩
 ·show w'.heap[i]? =_
  rw [h5 i (fun e=>by subst e;rcases hok.1 with h6|h6;omega;exact hS h6)]
  exact h.old i hi hS
 ·show _∧i < w'.heap.size
  rw [h4];exact h.Fc i o hi
 ·show _∧i < w'.heap.size
  rw [h4];exact h.Fm i hi
 ·rw [hσ] at hy
  by_cases hm:m=n
  ·subst hm
   rw [if_pos rfl] at hy
   cases hy
   exact hx _ rfl hext ⟨hok.1,by show b < w'.heap.size;rw [h4];exact hok.2.1,hok.2.2.1,fun o ho=>hp o ho⟩
  ·rw [if_neg hm] at hy
   refine (h.st m y hy).keep (fun _ h=>h) hext (Nat.le_of_eq h4.symm) (fun v' b' hv' hb' _=>h5 b' (fun e=>by subst e;exact h.dist n m x y b' v v' (Ne.symm hm) hn hy hv hv' hbv hb')) (fun v' b' p' _ _ hok'=>⟨hok'.1,by show b' < w'.heap.size;rw [h4];exact hok'.2.1,hok'.2.2.1,hok'.2.2.2⟩)
 ·intro i j p' q b' v' u hij hpi hqj hvi huj hbi hbj
  have old:∀ m y,σ' m=some y→∃ y',σ m=some y':=fun m y hy=>by
   rw [hσ] at hy
   by_cases hm:m=n
   ·exact ⟨x,by rw [hm];exact hn⟩
   ·rw [if_neg hm] at hy;exact ⟨y,hy⟩
  obtain ⟨p2,hp2⟩:=old i p' hpi
  obtain ⟨q2,hq2⟩:=old j q hqj
  exact h.dist i j p2 q2 b' v' u hij hp2 hq2 hvi huj hbi hbj
 ·obtain ⟨d1,d2⟩:=h.dp D hD
  exact ⟨(h5 D (fun e=>by subst e;exact (h.st n x hn).nodp hv hbv d1)).trans d1,d2⟩
end
def stK (st:List (Nat×Blk)) (sz:Nat) (val:V) (K:List (Nat×Blk)→Prop):V→Prop
 | .ptr n off=>match lkB st n,vcells val with
   |some (.cells t cs),some vs=>vs.length=sz∧off+sz≤cs.length∧K (setB n (.cells t (splice cs off vs)) st)
   |_,_=>False
 | .oel n sz1 j off=>match lkB st n,vcells val with
   |some (.row e sz2 d0 es),some ds=>ds.length=sz∧off+sz≤sz1∧sz1=sz2∧j < es.length∧K (setB n (.row e sz1 d0 (es.set j (splice (es.getD j d0) off ds))) st)
   |_,_=>False
 |_=>False
theorem st_run {P:Program} {t:Nat} {i:TyI} (hi:TyOk P t i) {w:World} {b o:Nat} {v:Value} {us:List Value} (hv:v.cells=us.toArray) (h1:∀ u∈us,u.oneCell'=true) (hl:us.length=i.sz) (ht:w.there b o us.length):
  (Instr.storeAt t (.pointer (some ⟨b,o,none⟩)) v).run P w= .ok () (w.setCells b o us):=by
 have:=run_storeAt_mid (P:=P) w b o t us.toArray (by simpa using ht) (by rw [hi.size];simp [hl]) (by simpa using h1)
 rw [show (Instr.storeAt t (.pointer (some ⟨b,o,none⟩)) v)=(Instr.storeAt t (.pointer (some ⟨b,o,none⟩)) (.agg us.toArray)) by
  show (do storeVar t (← Instr.sureAddr _) v)=(do storeVar t (← Instr.sureAddr _) (.agg us.toArray))
  simp only [storeVar_agg (P:=P) t _ v,hv]]
 simpa using this
section
variable {P:Program} {B:Base} {s:St} {E:Env} {a:Act} {o:Oper}
theorem there_of {w:World} {b:Nat} {us:List Value} {t:TypeId} (h:w.heap[b]? =some (.cells us.toArray t (0,0))) {o n:Nat} (hl:o+n≤us.length):w.there b o n:=fun j hj=>by
 constructor
 ·simp only [World.cell?,h]
  simp;omega
 ·simp [World.frozen?,h]
theorem st_ok {t:Nat} {i:TyI} (hi:TyOk P t i) {x y:Operand} (ho:o.op= .store t x y) (hx:constOk B.N x=true) (hy:constOk B.N y=true) {K:List (Nat×Blk)→Prop} (h:stK s.st i.sz (ev (lkT s.tm) y) K (ev (lkT s.tm) x)):
  ∃ st',K st'∧∀ E a,Gam P B s E a→∃ E',(execOp a.eval o).run P E.w= .ok .skip E'.w∧GamS P B (lkB st') (fun n=>s.nx≤n) E'∧Ext E E'∧E'.dp=E.dp:=by
 generalize hX:ev (lkT s.tm) x=X at h
 generalize hY:ev (lkT s.tm) y=Y at h
 unfold stK at h
 split at h<;>try exact h.elim
 ·rename_i n off
  split at h<;>try exact h.elim
  rename_i t' cs vs hst hvc
  obtain ⟨hsz,hoff,hK⟩:=h
  refine ⟨_,hK,fun E a hg=>?_⟩
  have rx:=ev_ok hg.2 x hx
  have ry:=ev_ok hg.2 y hy
  rw [hX] at rx
  rw [hY] at ry
  simp only [RV] at rx
  obtain ⟨b,hb1,hb2⟩:=rx
  obtain ⟨us,g1,g2,g3⟩:=vcells_ok hvc ry
  obtain ⟨b',cur,k1,k2,k3,k4,k5⟩:=hg.1.st n _ hst
  rw [hb1] at k1
  cases k1
  have hl1:=g2.len
  have hl2:=k3.len
  obtain ⟨f1,f2,f3,f4,f5⟩:=setCells_facts b us off E.w
  have hrun:=st_run (P:=P) (w:=E.w) (b:=b) (o:=off) hi g1 g3 (by omega) (there_of k2 (by omega))
  have hW:=GamS.write (x:= .cells t' cs) (x':= .cells t' (splice cs off vs)) (σ':=lkB (setB n (.cells t' (splice cs off vs)) s.st)) (w':=E.w.setCells b off us) hg.1 hst (fun m=>lkB_setB _ _ _ _) hb1 rfl (fun o' ho'=>(k5.2.2.2 o' ho').elim) f1 f2 f3 f4 f5 (fun E' hE' hext hok=>by
   subst hE'
   refine ⟨b,spliceU cur off us,hb1,setCells_splice k2 (by omega),RVL.splice (RVL.mono hext _ _ k3) (RVL.mono hext _ _ g2),fun u hu=>?_,hok⟩
   unfold spliceU at hu
   rcases List.mem_append.1 hu with hu|hu
   ·rcases List.mem_append.1 hu with hu|hu
    ·exact k4 u (List.mem_of_mem_take hu)
    ·exact g3 u hu
   ·exact k4 u (List.mem_of_mem_drop hu))
  exact ⟨_,by simp [execOp,ho,hb2,hrun],hW.1,hW.2,rfl⟩
 ·rename_i n sz1 j off
  split at h<;>try exact h.elim
  rename_i e sz2 d0 es ds hst hvc
  obtain ⟨hsz,hoff,rfl,hj,hK⟩:=h
  refine ⟨_,hK,fun E a hg=>?_⟩
  have rx:=ev_ok hg.2 x hx
  have ry:=ev_ok hg.2 y hy
  rw [hX] at rx
  rw [hY] at ry
  simp only [RV] at rx
  obtain ⟨b,l,c,hb1,hb2⟩:=rx
  obtain ⟨us,g1,g2,g3⟩:=vcells_ok hvc ry
  have g4:=g2
  have hl4:=g4.len
  obtain ⟨v0,cur0,k1,k2,k3,k4,k5,k6,k7⟩:=hg.1.st n _ hst
  rw [hb1] at k1
  cases k1
  rcases k2.2 with ⟨hnil,_⟩|⟨g,cap,cur,hv,_,hgb,hle,hcm,hcs,htake⟩
  ·cases hnil
  ·cases hv
   have hbound:j * sz1+sz1≤es.length * sz1:=by
    calc j * sz1+sz1=(j+1) * sz1:=by rw [Nat.add_mul,Nat.one_mul]
     _≤es.length * sz1:=Nat.mul_le_mul_right _ hj
   have hbound2:es.length * sz1≤cur.size:=by rw [hcs];exact Nat.mul_le_mul_right _ hle
   have hgb':E.w.heap[b]? =some (.cells cur.toList.toArray e (0,0)):=by simpa using hgb
   obtain ⟨f1,f2,f3,f4,f5⟩:=setCells_facts b us (j * sz1+off) E.w
   have hrun:=st_run (P:=P) (w:=E.w) (b:=b) (o:=j * sz1+off) hi g1 g3 (by omega) (there_of hgb' (by simp;omega))
   have hlen0:cur0.length=es.length * sz1:=k2.1
   have hW:=GamS.write (x:= .row e sz1 d0 es) (x':= .row e sz1 d0 (es.set j (splice (es.getD j d0) off ds))) (σ':=lkB (setB n (.row e sz1 d0 (es.set j (splice (es.getD j d0) off ds))) s.st)) (w':=E.w.setCells b (j * sz1+off) us) hg.1 hst (fun m=>lkB_setB _ _ _ _) hb1 rfl (fun o' ho'=>((k7 b rfl).2.2.2 o' ho').elim) f1 f2 f3 f4 f5 (fun E' hE' hext hok=>by
    subst hE'
    have hge:es.getD j d0∈es:=by
     have:es[j]? =some (es.getD j d0):=by simp [List.getD,hj]
     exact List.mem_of_getElem? this
    have hel:=k4 _ hge
    have hsplen:(splice (es.getD j d0) off ds).length=sz1:=by unfold splice;simp only [List.length_append,List.length_take,List.length_drop];omega
    refine ⟨_,spliceU cur0 (j * sz1+off) us,hb1,⟨?_,.inr ⟨b,c,(spliceU cur.toList (j * sz1+off) us).toArray,by simp,Nat.zero_le _,setCells_splice hgb' (by simp;omega),by simpa using hle,hcm,?_,?_⟩⟩,?_,?_,?_,by simpa using k6,fun b' hb'=>by cases hb';exact hok⟩
    ·unfold spliceU;simp;omega
    ·unfold spliceU;simp;omega
    ·simp only [List.length_set]
     rw [spliceU_take (by omega) (by simpa using hbound2),htake]
    ·
     have key:∀ (es:List (List V)) (us0:List Value) (j:Nat) (hj:j < es.length),(∀ y∈es,y.length=sz1)→∀ {E:Env},RVL E es.flatten us0→RVL E ds us→RVL E (es.set j (splice (es.getD j d0) off ds)).flatten (spliceU us0 (j * sz1+off) us):=by
      intro es
      induction es with
      |nil=>intro us0 j hj;simp at hj
      |cons y es ih=>
        intro us0 j hj hz E h1 h2
        have hy:=hz y (by simp)
        simp only [List.flatten_cons] at h1
        have t1:=h1.take y.length
        have t2:=h1.drop y.length
        simp only [List.take_left',List.drop_left'] at t1 t2
        have hl0:=h1.len
        have hl1:=t1.len
        cases j with
        |zero=>
          simp only [List.set_cons_zero,List.flatten_cons,List.getD_cons_zero,Nat.zero_mul,Nat.zero_add]
          have hh:=((t1.take off).append h2).append (t1.drop (off+ds.length)) |>.append t2
          have hud:us.length=ds.length:=h2.len
          have e1:spliceU us0 off us=((us0.take y.length).take off++us++(us0.take y.length).drop (off+ds.length))++us0.drop y.length:=by
           rw [spliceU_left (n:=y.length) (by omega) (by simp at hl1;omega),← hud]
           rfl
          rw [e1]
          exact hh
        |succ j=>
          simp only [List.set_cons_succ,List.flatten_cons,List.getD_cons_succ]
          have hj':j < es.length:=by simpa using hj
          have ih':=ih (us0.drop y.length) j hj' (fun z hz'=>hz z (by simp [hz'])) t2 h2
          have hud:us.length=ds.length:=h2.len
          have hlb:j * sz1+sz1≤es.flatten.length:=by
           have:es.flatten.length=es.length * sz1:=by
            clear ih ih' h1 t1 t2 hl0 hl1 hj hj'
            induction es with
            |nil=>simp
            |cons z es ih2=>
              rw [List.flatten_cons,List.length_append,ih2 (fun q hq=>hz q (by
               rcases List.mem_cons.1 hq with rfl|hq
               ·simp
               ·simp [hq])),hz z (by simp),List.length_cons,Nat.add_mul,Nat.one_mul,Nat.add_comm]
           rw [this]
           calc j * sz1+sz1=(j+1) * sz1:=by rw [Nat.add_mul,Nat.one_mul]
            _≤es.length * sz1:=Nat.mul_le_mul_right _ hj'
          have e1:spliceU us0 ((j+1) * sz1+off) us=us0.take y.length++spliceU (us0.drop y.length) (j * sz1+off) us:=by
           rw [show (j+1) * sz1+off=y.length+(j * sz1+off) by rw [Nat.add_mul];omega]
           rw [List.length_append] at hl0
           exact spliceU_right (by omega)
          rw [e1]
          exact t1.append ih'
     exact key es cur0 j hj k4 (RVL.mono hext _ _ k3) (RVL.mono hext _ _ g4)
    ·intro z hz
     rcases List.mem_or_eq_of_mem_set hz with hz|rfl
     ·exact k4 z hz
     ·exact hsplen
    ·intro u hu
     unfold spliceU at hu
     rcases List.mem_append.1 hu with hu|hu
     ·rcases List.mem_append.1 hu with hu|hu
      ·exact k5 u (List.mem_of_mem_take hu)
      ·exact g3 u hu
     ·exact k5 u (List.mem_of_mem_drop hu))
   exact ⟨_,by simp [execOp,ho,hb2,hrun],hW.1,hW.2,rfl⟩
end
def mpK (P:Program) (T:Tab) (st:List (Nat×Blk)) (t:Nat) (x:V) (f:List Int→List (List Int×V)→List (List Int×V)) (K:List (Nat×Blk)→Prop):V→Prop
 | .mp n=>match ty T t with
   |some ⟨.map k el,_,_,_⟩=>match lkB st n with
     |some (.map q k' zv z0 es)=>match keyV q x with
       |some c=>k'=k∧KeyOk P k q∧fitK q c∧K (setB n (.map q k zv z0 (f c es)) st)
       |none=>False
     |_=>False
   |_=>False
 |_=>False
theorem upM_set {c:List Int} {v x:V}:∀ {es:List (List Int×V)} {j:Nat},(es.map (·.1)).Nodup→es[j]? =some (c,x)→upM c v es=es.set j (c,v)∧dlM c es=es.eraseIdx j
 |[],j,_,h=>by simp at h
 |(d,y) :: l,0,_,h=>by
   simp at h
   simp [upM,dlM,h.1]
 |(d,y) :: l,j+1,hn,h=>by
   simp only [List.map_cons,List.nodup_cons] at hn
   have h':l[j]? =some (c,x):=by simpa using h
   have hcd:c≠d:=fun e=>hn.1 (by rw [← e];exact List.mem_map.2 ⟨(c,x),List.mem_of_getElem? h',rfl⟩)
   obtain ⟨i1,i2⟩:=upM_set (v:=v) hn.2 h'
   simp only [upM,dlM,if_neg hcd,List.set_cons_succ,List.eraseIdx_cons_succ,i1,i2]
   exact ⟨trivial,trivial⟩
theorem upM_any {c:List Int} {v:V}:∀ {es:List (List Int×V)},lkM c es=none→upM c v es=es++[(c,v)]∧dlM c es=es∧c ∉ es.map (·.1)
 |[],_=>⟨rfl,rfl,by simp⟩
 |(d,y) :: l,h=>by
   unfold lkM at h
   split at h
   ·cases h
   ·rename_i hcd
    obtain ⟨i1,i2,i3⟩:=upM_any (v:=v) h
    simp only [upM,dlM,if_neg hcd,i1,i2]
    exact ⟨rfl,trivial,by simp only [List.map_cons,List.mem_cons,not_or];exact ⟨hcd,i3⟩⟩
section
variable {P:Program} {q:KQ} {k:TypeId} {E:Env}
theorem RMp.push {e:MapEntry} {c:List Int} {v:V} (he:keyC q e.key=some c∧fitK q c∧RV E v e.val):∀ {ms:List MapEntry} {es:List (List Int×V)},RMp P q k E ms es→RMp P q k E (ms++[e]) (es++[(c,v)])
 |[],[],_=>⟨he,trivial⟩
 |_ :: _,(_,_) :: _,h=>⟨h.1,RMp.push he h.2⟩
 |[],_ :: _,h=>by simp only [RMp] at h
 |_ :: _,[],h=>by simp only [RMp] at h
theorem RMp.set {e:MapEntry} {c:List Int} {v:V} (he:keyC q e.key=some c∧fitK q c∧RV E v e.val):∀ {ms:List MapEntry} {es:List (List Int×V)} {j:Nat},RMp P q k E ms es→RMp P q k E (ms.set j e) (es.set j (c,v))
 |[],[],_,_=>trivial
 |_ :: _,(_,_) :: _,0,h=>⟨he,h.2⟩
 |_ :: _,(_,_) :: _,j+1,h=>⟨h.1,RMp.set he h.2⟩
 |[],_ :: _,_,h=>by simp only [RMp] at h
 |_ :: _,[],_,h=>by simp only [RMp] at h
theorem RMp.erase:∀ {ms:List MapEntry} {es:List (List Int×V)} {j:Nat},RMp P q k E ms es→RMp P q k E (ms.eraseIdx j) (es.eraseIdx j)
 |[],[],_,_=>trivial
 |_ :: _,(_,_) :: _,0,h=>h.2
 |_ :: _,(_,_) :: _,j+1,h=>⟨h.1,RMp.erase h.2⟩
 |[],_ :: _,_,h=>by simp only [RMp] at h
 |_ :: _,[],_,h=>by simp only [RMp] at h
end
theorem nodup_set {c:List Int} {v x:V} {es:List (List Int×V)} {j:Nat} (hn:(es.map (·.1)).Nodup) (h:es[j]? =some (c,x)):((es.set j (c,v)).map (·.1)).Nodup:=by
 have:(es.set j (c,v)).map (·.1)=es.map (·.1):=by
  rw [List.map_set]
  refine List.ext_getElem? fun m=>?_
  rw [List.getElem?_set]
  split
  ·rename_i e
   subst e
   simp only [List.length_map,List.getElem?_map,h,Option.map_some]
   have:=(List.getElem?_eq_some_iff.1 h).1
   simp [this]
  ·rfl
 rw [this]
 exact hn
section
variable {P:Program} {T:Tab} {B:Base} {s:St} {E:Env} {a:Act} {o:Oper}
theorem setBlk_facts {w:World} {b:Nat} {x:Obj}:(∀ i,i≠b→(w.heap.setIfInBounds b x)[i]? =w.heap[i]?)∧(b < w.heap.size→(w.heap.setIfInBounds b x)[b]? =some x):=
 ⟨fun i hi=>by rw [Array.getElem?_setIfInBounds];simp [Ne.symm hi],fun hb=>by simp [hb]⟩
theorem bornOk_push {ms:Array MapEntry} {clock:Nat} {k v:Value} (h:BornOk ms clock):BornOk (ms.push ⟨k,v,clock⟩) (clock+1):=by
 unfold BornOk at h ⊢
 rw [Array.toList_push]
 refine ⟨?_,fun e he=>?_⟩
 ·rw [List.map_append,List.nodup_append]
  refine ⟨h.1,by simp,fun a ha b hb e=>?_⟩
  obtain ⟨x,hx,rfl⟩:=List.mem_map.1 ha
  have:=h.2 x hx
  simp only [List.map_cons,List.map_nil,List.mem_singleton] at hb
  omega
 ·rcases List.mem_append.1 he with he|he
  ·have:=h.2 e he;omega
  ·rw [List.mem_singleton.1 he];exact Nat.lt_succ_self _
theorem bornOk_modify {ms:Array MapEntry} {clock j:Nat} {k v:Value} (h:BornOk ms clock):BornOk (ms.modify j fun e=>{ e with key:=k,val:=v }) clock:=by
 have hl:(ms.modify j fun e=>{ e with key:=k,val:=v }).toList.map (·.born)=ms.toList.map (·.born):=by
  refine List.ext_getElem? fun i=>?_
  rw [List.getElem?_map,List.getElem?_map,Array.getElem?_toList,Array.getElem?_toList,Array.getElem?_modify]
  by_cases hij:j=i
  ·rw [if_pos hij];cases ms[i]?<;>rfl
  ·rw [if_neg hij]
 refine ⟨by rw [hl];exact h.1,fun e he=>?_⟩
 have:e.born∈ms.toList.map (·.born):=by rw [← hl];exact List.mem_map_of_mem he
 obtain ⟨x,hx,hxe⟩:=List.mem_map.1 this
 rw [← hxe];exact h.2 x hx
theorem bornOk_erase {ms:Array MapEntry} {clock j:Nat} (h:BornOk ms clock):BornOk (ms.eraseIdxIfInBounds j) clock:=by
 have hl:(ms.eraseIdxIfInBounds j).toList.Sublist ms.toList:=by
  unfold Array.eraseIdxIfInBounds
  split
  ·simp only [Array.toList_eraseIdx];exact List.eraseIdx_sublist _ _
  ·exact List.Sublist.refl _
 exact ⟨h.1.sublist (hl.map _),fun e he=>h.2 e (hl.subset he)⟩
theorem mu_ok (hT:TabOk P T) {t:Nat} {m x y:Operand} (ho:o.op= .mapUpdate t m x y∨o.op= .insert t m x y) (hm:constOk B.N m=true) (hx:constOk B.N x=true) (hy:constOk B.N y=true) {K:List (Nat×Blk)→Prop}
  (h:mpK P T s.st t (ev (lkT s.tm) x) (fun c es=>upM c (ev (lkT s.tm) y) es) K (ev (lkT s.tm) m)):
  ∃ st',K st'∧∀ E a,Gam P B s E a→∃ E',(execOp a.eval o).run P E.w= .ok .skip E'.w∧GamS P B (lkB st') (fun n=>s.nx≤n) E'∧Ext E E'∧E'.dp=E.dp:=by
 generalize hM:ev (lkT s.tm) m=M at h
 generalize hX:ev (lkT s.tm) x=X at h
 unfold mpK at h
 split at h<;>try exact h.elim
 rename_i n
 split at h<;>try exact h.elim
 rename_i k el sz0 z0' p0 hty
 have ht:P.underlying t=some (.map k el):=(ty_ok hT hty).2
 split at h<;>try exact h.elim
 rename_i q k' zv z0 es hst
 split at h<;>try exact h.elim
 rename_i c hc
 obtain ⟨rfl,hKo,hfit,hK⟩:=h
 refine ⟨_,hK,fun E a hg=>?_⟩
 have rm:=ev_ok hg.2 m hm
 have rx:=ev_ok hg.2 x hx
 have ry:=ev_ok hg.2 y hy
 rw [hM] at rm
 rw [hX] at rx
 simp only [RV] at rm
 obtain ⟨b,ms,clock,g1,g2,g3,g4,g5,g6⟩:=hg.1.st n _ hst
 have gm:a.eval m= .map (some b):=Option.some.inj (rm.1.symm.trans g1)
 have hkc:=keyV_ok hc rx
 have hks:=hKo.fit _ _ hkc hfit
 obtain ⟨l,hl⟩:=Option.isSome_iff_exists.1 hks
 have fin:∀ (ms':Array MapEntry) (clock':Nat) (es':List (List Int×V)),(execOp a.eval o).run P E.w= .ok .skip { E.w with heap:=E.w.heap.setIfInBounds b (.map ms' clock') }→(∀ E',Ext E E'→RMp P q k' E' ms'.toList es')→(es'.map (·.1)).Nodup→BornOk ms' clock'→es'=upM c (ev (lkT s.tm) y) es→
   ∃ E',(execOp a.eval o).run P E.w= .ok .skip E'.w∧GamS P B (lkB (setB n (.map q k' zv z0 (upM c (ev (lkT s.tm) y) es)) s.st)) (fun n=>s.nx≤n) E'∧Ext E E'∧E'.dp=E.dp:=by
  intro ms' clock' es' hrun hr hnd hbo he
  have hW:=GamS.write (x:= .map q k' zv z0 es) (x':= .map q k' zv z0 (upM c (ev (lkT s.tm) y) es)) (σ':=lkB (setB n (.map q k' zv z0 (upM c (ev (lkT s.tm) y) es)) s.st)) (w':={ E.w with heap:=E.w.heap.setIfInBounds b (.map ms' clock') }) hg.1 hst (fun m=>lkB_setB _ _ _ _) g1 rfl (fun o' ho'=>(g6.2.2.2 o' ho').elim) rfl rfl rfl (by simp) setBlk_facts.1 (fun E' hE' hext hok=>by
   subst hE'
   exact ⟨b,ms',clock',g1,setBlk_facts.2 g6.2.1,by rw [← he];exact hr _ hext,by rw [← he];exact hnd,⟨RV.mono hext _ _ g5.1,hbo⟩,hok⟩)
  exact ⟨_,hrun,hW.1,hW.2,rfl⟩
 have hop:(execOp a.eval o).run P E.w=((Instr.mapUpdate t (.map (some b)) (a.eval x) (a.eval y)).run P E.w).andThen fun _ w=> .ok .skip w:=by
  rcases ho with ho|ho<;>simp [execOp,ho,gm]
 rcases rm_find hKo hkc hks E.w g3 g4 with ⟨h3,h4,_⟩|⟨j,e0,y0,h3,h4,h5,h6,h7,h8⟩
 ·obtain ⟨u1,u2,u3⟩:=upM_any (v:=ev (lkT s.tm) y) h4
  refine fin (ms.push ⟨a.eval x,a.eval y,clock⟩) (clock+1) (es++[(c,ev (lkT s.tm) y)]) ?_ (fun E' hext=>?_) ?_ (bornOk_push g5.2) u1.symm
  ·rw [hop]
   simp [Instr.mapUpdate,run_underlying ht,MapKept.run_getObj_map g2,hKo.keyed.check E.w _ hl,h3,MapKept.run_setObj_map _ g2,Result.andThen]
  ·rw [Array.toList_push]
   exact RMp.push ⟨hkc,hfit,RV.mono hext _ _ ry⟩ (g3.mono hext)
  ·rw [List.map_append,List.map_cons,List.map_nil]
   exact List.nodup_append.2 ⟨g4,by simp,fun z hz z' hz'=>by simp at hz';subst hz';exact fun e=>u3 (by rw [← e];exact hz)⟩
 ·obtain ⟨u1,u2⟩:=upM_set (v:=ev (lkT s.tm) y) g4 h6
  have hj:ms[j]? =some e0:=by simpa using h4
  refine fin (ms.modify j fun e=>{ e with key:=a.eval x,val:=a.eval y }) clock (es.set j (c,ev (lkT s.tm) y)) ?_ (fun E' hext=>?_) (nodup_set g4 h6) (bornOk_modify g5.2) u1.symm
  ·rw [hop]
   simp [Instr.mapUpdate,run_underlying ht,MapKept.run_getObj_map g2,hKo.keyed.check E.w _ hl,h3,hj,h5,hKo.keyed.stays E.w hl,MapKept.run_setObj_map _ g2,Result.andThen]
  ·have hl2:(ms.modify j fun e=>{ e with key:=a.eval x,val:=a.eval y }).toList=ms.toList.set j { e0 with key:=a.eval x,val:=a.eval y }:=by
    refine List.ext_getElem? fun i=>?_
    rw [Array.getElem?_toList,Array.getElem?_modify,List.getElem?_set]
    by_cases hij:j=i
    ·subst hij
     rw [if_pos rfl,if_pos rfl,hj]
     have:=(Array.getElem?_eq_some_iff.1 hj).1
     simp [this]
    ·rw [if_neg hij,if_neg hij];simp
   rw [hl2]
   exact RMp.set ⟨hkc,hfit,RV.mono hext _ _ ry⟩ (g3.mono hext)
theorem de_ok (hT:TabOk P T) {t:Nat} {m x:Operand} {c0:Call} (ho:o.op= .call c0) (hc0:c0.callee= .builtin .delete) {rest:List TypeId} (hts:c0.argTypes=(t :: rest).toArray) (has:c0.args= #[m,x]) (hm:constOk B.N m=true) (hx:constOk B.N x=true) {K:List (Nat×Blk)→Prop}
  (h:mpK P T s.st t (ev (lkT s.tm) x) dlM K (ev (lkT s.tm) m)):
  ∃ st',K st'∧∀ E a,Gam P B s E a→∃ E',(execOp a.eval o).run P E.w= .ok (.value (.tuple #[])) E'.w∧GamS P B (lkB st') (fun n=>s.nx≤n) E'∧Ext E E'∧E'.dp=E.dp:=by
 generalize hM:ev (lkT s.tm) m=M at h
 generalize hX:ev (lkT s.tm) x=X at h
 unfold mpK at h
 split at h<;>try exact h.elim
 rename_i n
 split at h<;>try exact h.elim
 rename_i k el sz0 z0' p0 hty
 have ht:P.underlying t=some (.map k el):=(ty_ok hT hty).2
 split at h<;>try exact h.elim
 rename_i q k' zv z0 es hst
 split at h<;>try exact h.elim
 rename_i c hc
 obtain ⟨rfl,hKo,hfit,hK⟩:=h
 refine ⟨_,hK,fun E a hg=>?_⟩
 have rm:=ev_ok hg.2 m hm
 have rx:=ev_ok hg.2 x hx
 rw [hM] at rm
 rw [hX] at rx
 simp only [RV] at rm
 obtain ⟨b,ms,clock,g1,g2,g3,g4,g5,g6⟩:=hg.1.st n _ hst
 have gm:a.eval m= .map (some b):=Option.some.inj (rm.1.symm.trans g1)
 have hkc:=keyV_ok hc rx
 have hks:=hKo.fit _ _ hkc hfit
 obtain ⟨l,hl⟩:=Option.isSome_iff_exists.1 hks
 have fin:∀ (ms':Array MapEntry) (clock':Nat) (es':List (List Int×V)),(execOp a.eval o).run P E.w= .ok (.value (.tuple #[])) { E.w with heap:=E.w.heap.setIfInBounds b (.map ms' clock') }→(∀ E',Ext E E'→RMp P q k' E' ms'.toList es')→(es'.map (·.1)).Nodup→BornOk ms' clock'→es'=dlM c es→
   ∃ E',(execOp a.eval o).run P E.w= .ok (.value (.tuple #[])) E'.w∧GamS P B (lkB (setB n (.map q k' zv z0 (dlM c es)) s.st)) (fun n=>s.nx≤n) E'∧Ext E E'∧E'.dp=E.dp:=by
  intro ms' clock' es' hrun hr hnd hbo he
  have hW:=GamS.write (x:= .map q k' zv z0 es) (x':= .map q k' zv z0 (dlM c es)) (σ':=lkB (setB n (.map q k' zv z0 (dlM c es)) s.st)) (w':={ E.w with heap:=E.w.heap.setIfInBounds b (.map ms' clock') }) hg.1 hst (fun m=>lkB_setB _ _ _ _) g1 rfl (fun o' ho'=>(g6.2.2.2 o' ho').elim) rfl rfl rfl (by simp) setBlk_facts.1 (fun E' hE' hext hok=>by
   subst hE'
   exact ⟨b,ms',clock',g1,setBlk_facts.2 g6.2.1,by rw [← he];exact hr _ hext,by rw [← he];exact hnd,⟨RV.mono hext _ _ g5.1,hbo⟩,hok⟩)
  exact ⟨_,hrun,hW.1,hW.2,rfl⟩
 have hop:(execOp a.eval o).run P E.w=((Builtin.delete_ (t :: rest).toArray o.type #[.map (some b),a.eval x]).run P E.w).andThen fun v w=> .ok (.value v) w:=by
  simp [execOp,ho,resolve,hc0,hts,has,invoke,builtin,gm,Result.andThen]
 rcases rm_find hKo hkc hks E.w g3 g4 with ⟨h3,h4,_⟩|⟨j,e0,y0,h3,h4,h5,h6,h7,h8⟩
 ·obtain ⟨u1,u2,u3⟩:=upM_any (v:= .any) h4
  refine fin ms clock es ?_ (fun E' hext=>g3.mono hext) g4 g5.2 u2.symm
  rw [hop]
  simp [Builtin.delete_,run_underlying ht,MapKept.run_getObj_map g2,hKo.keyed.check E.w _ hl,h3,MapKept.run_setObj_map _ g2,Result.andThen]
 ·obtain ⟨u1,u2⟩:=upM_set (v:= .any) g4 h6
  refine fin (ms.eraseIdxIfInBounds j) clock (es.eraseIdx j) ?_ (fun E' hext=>?_) ?_ (bornOk_erase g5.2) u2.symm
  ·rw [hop]
   simp [Builtin.delete_,run_underlying ht,MapKept.run_getObj_map g2,hKo.keyed.check E.w _ hl,h3,MapKept.run_setObj_map _ g2,Result.andThen]
  ·have hl2:(ms.eraseIdxIfInBounds j).toList=ms.toList.eraseIdx j:=by
    have hj:=(List.getElem?_eq_some_iff.1 h4).1
    simp only [Array.length_toList] at hj
    simp [Array.eraseIdxIfInBounds,hj]
   rw [hl2]
   exact RMp.erase (g3.mono hext)
  ·exact g4.sublist ((List.eraseIdx_sublist _ _).map _)
end
end Go.Proofs.YthidfoohhhkobaaGreat
