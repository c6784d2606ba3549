import Derived.Test.YthidfoohhhkobaaGreatG2
import Derived.ChangeKeysEq
import Derived.Test.YthidfoohhhkobaaGreatG1
import Derived.Test.YthidfoohhhkobaaGreatProg
namespace Go.Proofs.YthidfoohhhkobaaGreat
set_option linter.unusedVariables false
set_option linter.unusedSimpArgs false
open Go.RowKit
section
variable {P:Program}
def EqT (P:Program) (t:TypeId) (ks:List IntKind) (D:Nat):Prop:=
 (∃ k,P.underlying t=some (.int k)∧ks=[k]∧1≤D)∨((∀ w,(isAgg t).run P w= .ok true w)∧(∀ w,(sizeOf t).run P w= .ok ks.length w)∧
  ∀ d,D≤d→∀ w a b,a.map (·.1)=ks→b.map (·.1)=ks→(Op.equalIn d t (.agg (kvals a).toArray) (.agg (kvals b).toArray)).run P w= .ok (a==b) w)
theorem kvals_app (a b:List (IntKind×Int)):kvals (a++b)=kvals a++kvals b:=by simp [kvals]
theorem beq_split {a1 a2 b1 b2:List (IntKind×Int)} (h:a1.length=b1.length):(a1++a2==b1++b2)=((a1==b1)&&(a2==b2)):=by
 rw [Bool.eq_iff_iff]
 simp only [beq_iff_eq,Bool.and_eq_true]
 constructor
 ·intro e;exact List.append_inj e h
 ·rintro ⟨rfl,rfl⟩;rfl
theorem eqT_step {t:TypeId} {ks:List IntKind} {D d k:Nat} (hE:EqT P t ks D) (hd:D≤d) (w:World) (p q a b u v:List (IntKind×Int)) (hp:p.length=k) (hq:q.length=k) (ha:a.map (·.1)=ks) (hb:b.map (·.1)=ks):
  ∃ x y,(part t (kvals (p++a++u)).toArray k).run P w= .ok x w∧(part t (kvals (q++b++v)).toArray k).run P w= .ok y w∧(Op.equalIn d t x y).run P w= .ok (a==b) w:=by
 have hla:a.length=ks.length:=by simpa using congrArg List.length ha
 have hlb:b.length=ks.length:=by simpa using congrArg List.length hb
 rcases hE with ⟨kk,hu,rfl,hD⟩|⟨hagg,hsz,hE⟩
 ·obtain ⟨⟨ka,na⟩,rfl⟩:∃ c,a=[c]:=by match a,hla with|[c],_=>exact ⟨c,rfl⟩
  obtain ⟨⟨kb,nb⟩,rfl⟩:∃ c,b=[c]:=by match b,hlb with|[c],_=>exact ⟨c,rfl⟩
  have ha:kk=ka:=by simpa using ha.symm
  have hb:kk=kb:=by simpa using hb.symm
  subst ha;subst hb
  have pt:∀ (p u:List (IntKind×Int)) (n:Int),p.length=k→(part t (kvals (p++[(kk,n)]++u)).toArray k).run P w= .ok (.int kk n) w:=fun p u n hp=>by
   have:(kvals (p++[(kk,n)]++u)).toArray[k]? =some (.int kk n):=by rw [← hp];simp [kvals]
   unfold part
   simp only [Sem.run_bind,isAgg,run_underlying hu,Result.andThen_ok,Sem.run_pure,Bool.false_eq_true,if_false,this]
  obtain ⟨d',rfl⟩:∃ d',d=d'+1:=⟨d - 1,by omega⟩
  refine ⟨_,_,pt p u na hp,pt q v nb hq,?_⟩
  rw [run_equalIn_int w d' t kk kk na nb hu]
  congr 1
  rw [Bool.eq_iff_iff]
  simp
 ·have pt:∀ (p a u:List (IntKind×Int)),p.length=k→a.length=ks.length→(part t (kvals (p++a++u)).toArray k).run P w= .ok (.agg (kvals a).toArray) w:=fun p a u hp ha=>by
   unfold part
   simp only [Sem.run_bind,hagg,Result.andThen_ok,if_true,hsz,Sem.run_pure]
   congr 2
   apply Array.ext'
   simp only [Array.toList_extract,List.extract_eq_take_drop,kvals_app]
   have h1:(kvals p).length=k:=by simp [kvals,hp]
   have h2:(kvals a).length=ks.length:=by simp [kvals,ha]
   rw [List.append_assoc,← h1,List.drop_left,show (kvals p).length+ks.length - (kvals p).length=(kvals a).length by omega,List.take_left]
  exact ⟨_,_,pt p a u hp hla,pt q b v hq hlb,hE d hd w a b ha hb⟩
def FieldsK (P:Program) (D:Nat):Nat→List Field→List (List IntKind)→Prop
 |_,[],[]=>True
 |k,f :: fs,ks :: kss=>(f.offset=k∧f.name≠ "_" ∧EqT P f.type ks D)∧FieldsK P D (k+ks.length) fs kss
 |_,_,_=>False
theorem run_eqFieldsK {D d:Nat} (hd:D≤d) (w:World):∀ (fs:List Field) (kss:List (List IntKind)) (k:Nat) (p q a b:List (IntKind×Int)),FieldsK P D k fs kss→p.length=k→q.length=k→a.map (·.1)=kss.flatten→b.map (·.1)=kss.flatten→
  (Op.eqFields d (kvals (p++a)).toArray (kvals (q++b)).toArray fs).run P w= .ok (a==b) w
 |[],[],k,p,q,a,b,_,_,_,ha,hb=>by
   simp at ha hb
   subst ha;subst hb
   simp [Op.eqFields]
 |f :: fs,ks :: kss,k,p,q,a,b,h,hp,hq,ha,hb=>by
   obtain ⟨⟨h1,h2,h3⟩,h4⟩:=h
   have split:∀ a:List (IntKind×Int),a.map (·.1)=(ks :: kss).flatten→∃ a1 a2,a=a1++a2∧a1.map (·.1)=ks∧a2.map (·.1)=kss.flatten:=fun a ha=>by
    refine ⟨a.take ks.length,a.drop ks.length,(List.take_append_drop _ _).symm,?_,?_⟩
    ·rw [List.map_take,ha,List.flatten_cons,List.take_left]
    ·rw [List.map_drop,ha,List.flatten_cons,List.drop_left]
   obtain ⟨a1,a2,rfl,ha1,ha2⟩:=split a ha
   obtain ⟨b1,b2,rfl,hb1,hb2⟩:=split b hb
   have hla:a1.length=ks.length:=by simpa using congrArg List.length ha1
   have hlb:b1.length=ks.length:=by simpa using congrArg List.length hb1
   obtain ⟨x,y,e1,e2,e3⟩:=eqT_step h3 hd w p q a1 b1 a2 b2 hp hq ha1 hb1
   rw [List.append_assoc] at e1 e2
   have ih:=run_eqFieldsK hd w fs kss (k+ks.length) (p++a1) (q++b1) a2 b2 h4 (by simp [hp,hla]) (by simp [hq,hlb]) ha2 hb2
   simp only [List.append_assoc] at ih
   simp only [Op.eqFields,h2,ne_eq,not_false_eq_true,if_true,Sem.run_bind,h1,e1,e2,Result.andThen_ok,e3,beq_split (hla.trans hlb.symm)]
   cases hc:(a1==b1)
   ·simp
   ·simpa using ih
 |[],_ :: _,_,_,_,_,_,h,_,_,_,_=>h.elim
 |_ :: _,[],_,_,_,_,_,h,_,_,_,_=>h.elim
theorem eqT_struct {t:TypeId} {D:Nat} {kss:List (List IntKind)} {n:Nat} (ht:P.underlying t=some (.struct (P.fieldsOf t))) (hp:P.stoodInHeld t=false) (hsz:(P.info? t).map (·.size)=some n) (hn:n=kss.flatten.length) (hF:FieldsK P D 0 (P.fieldsOf t).toList kss):EqT P t kss.flatten (D+1):=by
 refine .inr ⟨fun w=>by unfold Go.isAgg;rw [Sem.run_bind,run_underlying ht w];rfl,fun w=>?_,fun d hd w a b ha hb=>?_⟩
 ·cases hi:P.info? t with
  |none=>rw [hi] at hsz;cases hsz
  |some j=>rw [hi] at hsz;simp at hsz;simp [Go.sizeOf,typeInfo,hi,hsz,hn]
 ·obtain ⟨d',rfl⟩:∃ d',d=d'+1:=⟨d - 1,by omega⟩
  rw [run_equalIn_struct w d' t _ _ ht hp]
  exact run_eqFieldsK (by omega) w _ kss 0 [] [] a b hF rfl rfl ha hb
theorem run_eqItemsK {e:TypeId} {kk:IntKind} (he:P.underlying e=some (.int kk)) (d:Nat) (w:World):∀ (n k:Nat) (p q a b:List (IntKind×Int)),p.length=k→q.length=k→a.map (·.1)=List.replicate n kk→b.map (·.1)=List.replicate n kk→
  (Op.eqItems (d+1) e 1 (kvals (p++a)).toArray (kvals (q++b)).toArray (List.range' k n)).run P w= .ok (a==b) w
 |0,k,p,q,a,b,_,_,ha,hb=>by
   simp at ha hb
   subst ha;subst hb
   simp [Op.eqItems]
 |n+1,k,p,q,a,b,hp,hq,ha,hb=>by
   have split:∀ a:List (IntKind×Int),a.map (·.1)=List.replicate (n+1) kk→∃ c a2,a=c :: a2∧[c].map (·.1)=[kk]∧a2.map (·.1)=List.replicate n kk:=fun a ha=>by
    cases a with
    |nil=>simp at ha
    |cons c a2=>rw [List.map_cons,List.replicate_succ,List.cons.injEq] at ha;exact ⟨c,a2,rfl,by simp [ha.1],ha.2⟩
   obtain ⟨a1,a2,rfl,ha1,ha2⟩:=split a ha
   obtain ⟨b1,b2,rfl,hb1,hb2⟩:=split b hb
   obtain ⟨x,y,e1,e2,e3⟩:=eqT_step (P:=P) (D:=1) (d:=d+1) (.inl ⟨kk,he,rfl,Nat.le_refl _⟩) (by omega) w p q [a1] [b1] a2 b2 hp hq ha1 hb1
   have ih:=run_eqItemsK he d w n (k+1) (p++[a1]) (q++[b1]) a2 b2 (by simp [hp]) (by simp [hq]) ha2 hb2
   simp only [List.append_assoc,List.cons_append,List.nil_append] at ih e1 e2
   simp only [List.range'_succ,Op.eqItems,Sem.run_bind,Nat.mul_one,e1,e2,Result.andThen_ok,e3]
   have hbs:=beq_split (a1:=[a1]) (a2:=a2) (b1:=[b1]) (b2:=b2) rfl
   simp only [List.cons_append,List.nil_append] at hbs
   rw [hbs]
   cases hc:([a1]==[b1])
   ·simp
   ·simpa using ih
theorem eqT_arr {t e:TypeId} {kk:IntKind} {n:Nat} {i:TypeInfo} (ht:P.underlying t=some (.array n e)) (he:P.underlying e=some (.int kk)) (hi:P.info? e=some i) (hc:P.cellsOf e=1) (hsz:(P.info? t).map (·.size)=some n):EqT P t (List.replicate n kk) 2:=by
 refine .inr ⟨fun w=>by unfold Go.isAgg;rw [Sem.run_bind,run_underlying ht w];rfl,fun w=>?_,fun d hd w a b ha hb=>?_⟩
 ·cases hi:P.info? t with
  |none=>rw [hi] at hsz;cases hsz
  |some j=>rw [hi] at hsz;simp at hsz;simp [Go.sizeOf,typeInfo,hi,hsz]
 ·obtain ⟨d',rfl⟩:∃ d',d=d'+2:=⟨d - 2,by omega⟩
  rw [run_equalIn_array w (d'+1) _ _ ht hi,hc,List.range_eq_range']
  exact run_eqItemsK he d' w n 0 [] [] a b rfl rfl ha hb
theorem EqT.up {t:TypeId} {ks:List IntKind} {D D':Nat} (hD:D≤D') (h:EqT P t ks D):EqT P t ks D':=by
 rcases h with ⟨k,h1,h2,h3⟩|⟨h1,h2,h3⟩
 ·exact .inl ⟨k,h1,h2,by omega⟩
 ·exact .inr ⟨h1,h2,fun d hd=>h3 d (by omega)⟩
theorem eqK_of {t:TypeId} {ks:List IntKind} {D:Nat} (hE:EqT P t ks D) (hD:D≤10000) (ha:∀ w,(isAgg t).run P w= .ok true w) (hm:P.eqGuardType P.depth t=false):EqKInts P t ks:=by
 intro w x y a b ha' hb' op hop
 have he:(Op.equalIn 10000 t (.agg (kvals a).toArray) (.agg (kvals b).toArray)).run P w= .ok (a==b) w:=by
  rcases hE with ⟨k,h1,h2,_⟩|⟨_,_,h3⟩
  ·have:=ha w
   unfold Go.isAgg at this
   rw [Sem.run_bind,run_underlying h1 w] at this
   simp at this
  ·exact h3 10000 hD w a b ha' hb'
 rcases hop with rfl|rfl
 ·simp only [Sem.run_bind,run_eqGuard_agg w _ t x y _ _ hm,Result.andThen_ok,run_eql_struct,he]
  rfl
 ·simp only [Sem.run_bind,run_eqGuard_agg w _ t x y _ _ hm,Result.andThen_ok,run_neq_struct,he]
  rfl
def fieldsB (tab:List (TypeId×List IntKind)):Nat→List Field→List (List IntKind)→Bool
 |_,[],[]=>true
 |k,f :: fs,ks :: kss=>f.offset==k&&f.name != "_" &&tab.any (fun p=>decide (p.1=f.type∧p.2=ks))&&fieldsB tab (k+ks.length) fs kss
 |_,_,_=>false
theorem fieldsK_of {tab:List (TypeId×List IntKind)} {D:Nat} (htab:∀ p∈tab,EqT P p.1 p.2 D):∀ (fs:List Field) (kss:List (List IntKind)) (k:Nat),fieldsB tab k fs kss=true→FieldsK P D k fs kss
 |[],[],_,_=>trivial
 |f :: fs,ks :: kss,k,h=>by
   simp only [fieldsB,Bool.and_eq_true] at h
   obtain ⟨⟨⟨h1,h2⟩,h3⟩,h4⟩:=h
   obtain ⟨p,hp,hq⟩:=List.any_eq_true.1 h3
   have hq:=of_decide_eq_true hq
   refine ⟨⟨by simpa using h1,by simpa using h2,?_⟩,fieldsK_of htab fs kss _ h4⟩
   rw [← hq.1,← hq.2]
   exact htab p hp
 |[],_ :: _,_,h=>by simp [fieldsB] at h
 |_ :: _,[],_,h=>by simp [fieldsB] at h
theorem eqI_of {t:TypeId} {n:Nat} (h:EqKInts P t (List.replicate n .i64)):EqInts P t n:=by
 intro w x y a b ha hb op hop
 have key:∀ a:List Int,a.map (Value.int .i64)=kvals (a.map fun n=>(.i64,n)):=fun a=>by simp [kvals]
 have kk:∀ a:List Int,a.length=n→(a.map fun n=>(IntKind.i64,n)).map (·.1)=List.replicate n .i64:=fun a h=>List.eq_replicate_iff.2 ⟨by simp [h],by simp⟩
 have hb':((a.map fun n=>(IntKind.i64,n))==(b.map fun n=>(IntKind.i64,n)))=(a==b):=by
  rw [Bool.eq_iff_iff]
  simp only [beq_iff_eq]
  exact List.map_inj_right (fun x y e=>by simpa using e)
 rw [key a,key b,← hb']
 exact h w x y _ _ (kk a ha) (kk b hb) op hop
end

def T:Tab:=[
 (1,⟨.oth,1,.nilFunc,8⟩),
 (2,⟨.int .i64,1,.int .i64 0,8⟩),
 (3,⟨.int .i64,1,.int .i64 0,8⟩),
 (4,⟨.bool,1,.bool false,1⟩),
 (5,⟨.int .u8,1,.int .u8 0,1⟩),
 (9,⟨.str,1,.string ⟨#[]⟩,16⟩),
 (12,⟨.int .u64,1,.int .u64 0,8⟩),
 (13,⟨.struct [(0,1),(1,1)],2,.agg #[.string ⟨#[]⟩,.int .u64 0],24⟩),
 (21,⟨.int .i32,1,.int .i32 0,4⟩),
 (22,⟨.slice 56,1,.slice none 0 0,24⟩),
 (23,⟨.slice 52,1,.slice none 0 0,24⟩),
 (24,⟨.slice 101,1,.slice none 0 0,24⟩),
 (25,⟨.struct [(0,1),(1,1)],2,.agg #[.slice none 0 0,.slice none 0 0],48⟩),
 (26,⟨.struct [(0,1),(1,1)],2,.agg #[.slice none 0 0,.slice none 0 0],48⟩),
 (27,⟨.struct [(0,1),(1,2)],3,.agg #[.slice none 0 0,.slice none 0 0,.slice none 0 0],72⟩),
 (28,⟨.struct [(0,1),(1,2)],3,.agg #[.slice none 0 0,.slice none 0 0,.slice none 0 0],72⟩),
 (29,⟨.struct [(0,1),(1,1),(2,1)],3,.agg #[.int .i64 0,.int .i64 0,.int .i64 0],24⟩),
 (30,⟨.struct [(0,1),(1,1),(2,1)],3,.agg #[.int .i64 0,.int .i64 0,.int .i64 0],24⟩),
 (31,⟨.arr 32 5,32,.agg #[.int .u8 0,.int .u8 0,.int .u8 0,.int .u8 0,.int .u8 0,.int .u8 0,.int .u8 0,.int .u8 0,.int .u8 0,.int .u8 0,.int .u8 0,.int .u8 0,.int .u8 0,.int .u8 0,.int .u8 0,.int .u8 0,.int .u8 0,.int .u8 0,.int .u8 0,.int .u8 0,.int .u8 0,.int .u8 0,.int .u8 0,.int .u8 0,.int .u8 0,.int .u8 0,.int .u8 0,.int .u8 0,.int .u8 0,.int .u8 0,.int .u8 0,.int .u8 0],32⟩),
 (32,⟨.arr 32 5,32,.agg #[.int .u8 0,.int .u8 0,.int .u8 0,.int .u8 0,.int .u8 0,.int .u8 0,.int .u8 0,.int .u8 0,.int .u8 0,.int .u8 0,.int .u8 0,.int .u8 0,.int .u8 0,.int .u8 0,.int .u8 0,.int .u8 0,.int .u8 0,.int .u8 0,.int .u8 0,.int .u8 0,.int .u8 0,.int .u8 0,.int .u8 0,.int .u8 0,.int .u8 0,.int .u8 0,.int .u8 0,.int .u8 0,.int .u8 0,.int .u8 0,.int .u8 0,.int .u8 0],32⟩),
 (33,⟨.struct [(0,1),(1,1)],2,.agg #[.int .i64 0,.int .i64 0],16⟩),
 (34,⟨.struct [(0,1),(1,1)],2,.agg #[.int .i64 0,.int .i64 0],16⟩),
 (35,⟨.struct [(0,3),(3,1),(4,1),(5,1),(6,1),(7,32),(39,1),(40,2)],42,.agg #[.int .i64 0,.int .i64 0,.int .i64 0,.int .i64 0,.int .i64 0,.int .i64 0,.int .i64 0,.int .u8 0,.int .u8 0,.int .u8 0,.int .u8 0,.int .u8 0,.int .u8 0,.int .u8 0,.int .u8 0,.int .u8 0,.int .u8 0,.int .u8 0,.int .u8 0,.int .u8 0,.int .u8 0,.int .u8 0,.int .u8 0,.int .u8 0,.int .u8 0,.int .u8 0,.int .u8 0,.int .u8 0,.int .u8 0,.int .u8 0,.int .u8 0,.int .u8 0,.int .u8 0,.int .u8 0,.int .u8 0,.int .u8 0,.int .u8 0,.int .u8 0,.int .u8 0,.int .i64 0,.int .i64 0,.int .i64 0],112⟩),
 (36,⟨.struct [(0,3),(3,1),(4,1),(5,1),(6,1),(7,32),(39,1),(40,2)],42,.agg #[.int .i64 0,.int .i64 0,.int .i64 0,.int .i64 0,.int .i64 0,.int .i64 0,.int .i64 0,.int .u8 0,.int .u8 0,.int .u8 0,.int .u8 0,.int .u8 0,.int .u8 0,.int .u8 0,.int .u8 0,.int .u8 0,.int .u8 0,.int .u8 0,.int .u8 0,.int .u8 0,.int .u8 0,.int .u8 0,.int .u8 0,.int .u8 0,.int .u8 0,.int .u8 0,.int .u8 0,.int .u8 0,.int .u8 0,.int .u8 0,.int .u8 0,.int .u8 0,.int .u8 0,.int .u8 0,.int .u8 0,.int .u8 0,.int .u8 0,.int .u8 0,.int .u8 0,.int .i64 0,.int .i64 0,.int .i64 0],112⟩),
 (37,⟨.struct [(0,1),(1,1),(2,1),(3,1),(4,42)],46,.agg #[.int .i64 0,.int .i64 0,.int .i64 0,.int .i64 0,.int .i64 0,.int .i64 0,.int .i64 0,.int .i64 0,.int .i64 0,.int .i64 0,.int .i64 0,.int .u8 0,.int .u8 0,.int .u8 0,.int .u8 0,.int .u8 0,.int .u8 0,.int .u8 0,.int .u8 0,.int .u8 0,.int .u8 0,.int .u8 0,.int .u8 0,.int .u8 0,.int .u8 0,.int .u8 0,.int .u8 0,.int .u8 0,.int .u8 0,.int .u8 0,.int .u8 0,.int .u8 0,.int .u8 0,.int .u8 0,.int .u8 0,.int .u8 0,.int .u8 0,.int .u8 0,.int .u8 0,.int .u8 0,.int .u8 0,.int .u8 0,.int .u8 0,.int .i64 0,.int .i64 0,.int .i64 0],144⟩),
 (38,⟨.struct [(0,1),(1,1),(2,1),(3,1),(4,42)],46,.agg #[.int .i64 0,.int .i64 0,.int .i64 0,.int .i64 0,.int .i64 0,.int .i64 0,.int .i64 0,.int .i64 0,.int .i64 0,.int .i64 0,.int .i64 0,.int .u8 0,.int .u8 0,.int .u8 0,.int .u8 0,.int .u8 0,.int .u8 0,.int .u8 0,.int .u8 0,.int .u8 0,.int .u8 0,.int .u8 0,.int .u8 0,.int .u8 0,.int .u8 0,.int .u8 0,.int .u8 0,.int .u8 0,.int .u8 0,.int .u8 0,.int .u8 0,.int .u8 0,.int .u8 0,.int .u8 0,.int .u8 0,.int .u8 0,.int .u8 0,.int .u8 0,.int .u8 0,.int .u8 0,.int .u8 0,.int .u8 0,.int .u8 0,.int .i64 0,.int .i64 0,.int .i64 0],144⟩),
 (39,⟨.oth,1,.nilFunc,8⟩),
 (40,⟨.oth,1,.nilFunc,8⟩),
 (41,⟨.int .i64,1,.int .i64 0,8⟩),
 (43,⟨.oth,1,.nilFunc,8⟩),
 (44,⟨.oth,1,.nilFunc,8⟩),
 (45,⟨.oth,1,.nilFunc,8⟩),
 (46,⟨.oth,1,.nilFunc,8⟩),
 (47,⟨.oth,1,.nilFunc,8⟩),
 (48,⟨.oth,1,.nilFunc,8⟩),
 (49,⟨.slice 36,1,.slice none 0 0,24⟩),
 (50,⟨.slice 5,1,.slice none 0 0,24⟩),
 (51,⟨.struct [(0,1),(1,1),(2,1)],3,.agg #[.int .i64 0,.int .i64 0,.slice none 0 0],40⟩),
 (52,⟨.struct [(0,1),(1,1),(2,1)],3,.agg #[.int .i64 0,.int .i64 0,.slice none 0 0],40⟩),
 (53,⟨.oth,1,.nilFunc,8⟩),
 (54,⟨.oth,1,.nilFunc,8⟩),
 (55,⟨.struct [(0,1)],1,.agg #[.slice none 0 0],24⟩),
 (56,⟨.struct [(0,1)],1,.agg #[.slice none 0 0],24⟩),
 (57,⟨.oth,1,.nilFunc,8⟩),
 (58,⟨.oth,1,.nilFunc,8⟩),
 (60,⟨.oth,1,.nilFunc,8⟩),
 (61,⟨.oth,1,.pointer none,8⟩),
 (62,⟨.map 3 58,1,.map none,8⟩),
 (63,⟨.struct [(0,3)],3,.agg #[.slice none 0 0,.slice none 0 0,.slice none 0 0],72⟩),
 (64,⟨.struct [(0,3)],3,.agg #[.slice none 0 0,.slice none 0 0,.slice none 0 0],72⟩),
 (65,⟨.oth,1,.nilFunc,8⟩),
 (67,⟨.oth,1,.nilFunc,8⟩),
 (68,⟨.oth,1,.nilFunc,8⟩),
 (69,⟨.oth,1,.nilFunc,8⟩),
 (70,⟨.oth,1,.nilFunc,8⟩),
 (72,⟨.oth,1,.nilFunc,8⟩),
 (73,⟨.oth,1,.nilFunc,8⟩),
 (74,⟨.oth,1,.nilFunc,8⟩),
 (75,⟨.oth,1,.nilFunc,8⟩),
 (76,⟨.slice 79,1,.slice none 0 0,24⟩),
 (77,⟨.slice 3,1,.slice none 0 0,24⟩),
 (78,⟨.struct [(0,1),(1,1),(2,1),(3,1)],4,.agg #[.int .i64 0,.int .i64 0,.string ⟨#[]⟩,.slice none 0 0],56⟩),
 (79,⟨.struct [(0,1),(1,1),(2,1),(3,1)],4,.agg #[.int .i64 0,.int .i64 0,.string ⟨#[]⟩,.slice none 0 0],56⟩),
 (80,⟨.oth,1,.nilFunc,8⟩),
 (81,⟨.oth,1,.nilFunc,8⟩),
 (83,⟨.oth,1,.nilFunc,8⟩),
 (84,⟨.oth,1,.nilFunc,8⟩),
 (85,⟨.oth,1,.nilFunc,8⟩),
 (86,⟨.oth,1,.nilFunc,8⟩),
 (87,⟨.oth,1,.nilFunc,8⟩),
 (88,⟨.oth,1,.nilFunc,8⟩),
 (89,⟨.oth,1,.nilFunc,8⟩),
 (90,⟨.oth,1,.nilFunc,8⟩),
 (91,⟨.oth,1,.nilFunc,8⟩),
 (93,⟨.oth,1,.nilFunc,8⟩),
 (94,⟨.oth,1,.nilFunc,8⟩),
 (95,⟨.oth,1,.nilFunc,8⟩),
 (96,⟨.oth,1,.nilFunc,8⟩),
 (97,⟨.oth,1,.nilFunc,8⟩),
 (98,⟨.oth,1,.nilFunc,8⟩),
 (99,⟨.oth,1,.nilFunc,8⟩),
 (100,⟨.oth,1,.nilFunc,8⟩),
 (101,⟨.arr 2 3,2,.agg #[.int .i64 0,.int .i64 0],16⟩),
 (102,⟨.arr 2 3,2,.agg #[.int .i64 0,.int .i64 0],16⟩),
 (103,⟨.oth,1,.nilFunc,8⟩),
 (104,⟨.oth,1,.nilFunc,8⟩),
 (106,⟨.oth,1,.nilFunc,8⟩),
 (107,⟨.oth,1,.pointer none,8⟩),
 (108,⟨.arr 11 107,11,.agg #[.pointer none,.pointer none,.pointer none,.pointer none,.pointer none,.pointer none,.pointer none,.pointer none,.pointer none,.pointer none,.pointer none],88⟩),
 (109,⟨.oth,1,.nilFunc,8⟩),
 (110,⟨.oth,1,.pointer none,8⟩),
 (111,⟨.oth,1,.nilFunc,8⟩),
 (112,⟨.oth,1,.nilFunc,8⟩),
 (113,⟨.oth,1,.nilFunc,8⟩),
 (114,⟨.oth,1,.nilFunc,8⟩),
 (115,⟨.oth,1,.pointer none,8⟩),
 (117,⟨.oth,1,.nilFunc,8⟩),
 (118,⟨.oth,1,.nilFunc,8⟩),
 (119,⟨.oth,1,.nilFunc,8⟩),
 (120,⟨.oth,1,.nilFunc,8⟩),
 (122,⟨.oth,1,.nilFunc,8⟩),
 (123,⟨.oth,1,.nilFunc,8⟩),
 (124,⟨.oth,1,.nilFunc,8⟩),
 (126,⟨.oth,1,.nilFunc,8⟩),
 (127,⟨.oth,1,.nilFunc,8⟩),
 (128,⟨.oth,1,.nilFunc,8⟩),
 (129,⟨.oth,1,.nilFunc,8⟩),
 (130,⟨.oth,1,.nilFunc,8⟩),
 (131,⟨.oth,1,.pointer none,8⟩),
 (132,⟨.struct [(0,1)],1,.agg #[.slice none 0 0],24⟩),
 (133,⟨.struct [(0,1)],1,.agg #[.slice none 0 0],24⟩),
 (134,⟨.oth,1,.nilFunc,8⟩),
 (135,⟨.oth,1,.pointer none,8⟩),
 (136,⟨.struct [(0,1),(1,1),(2,1)],3,.agg #[.slice none 0 0,.int .i64 0,.bool false],40⟩),
 (137,⟨.struct [(0,1),(1,1),(2,1)],3,.agg #[.slice none 0 0,.int .i64 0,.bool false],40⟩),
 (138,⟨.oth,1,.nilFunc,8⟩),
 (139,⟨.oth,1,.nilFunc,8⟩),
 (140,⟨.oth,1,.nilFunc,8⟩),
 (141,⟨.int .u64,1,.int .u64 0,8⟩),
 (142,⟨.oth,1,.nilFunc,8⟩),
 (143,⟨.struct [(0,3),(3,1),(4,1)],5,.agg #[.int .i64 0,.int .i64 0,.int .i64 0,.int .i64 0,.int .i64 0],40⟩),
 (144,⟨.struct [(0,3),(3,1),(4,1)],5,.agg #[.int .i64 0,.int .i64 0,.int .i64 0,.int .i64 0,.int .i64 0],40⟩),
 (145,⟨.oth,1,.nilFunc,8⟩),
 (146,⟨.int .u64,1,.int .u64 0,8⟩),
 (147,⟨.oth,1,.nilFunc,8⟩),
 (148,⟨.oth,1,.nilFunc,8⟩),
 (149,⟨.struct [(0,1)],1,.agg #[.nilFunc],8⟩),
 (150,⟨.struct [(0,1)],1,.agg #[.nilFunc],8⟩),
 (151,⟨.oth,1,.pointer none,8⟩),
 (152,⟨.oth,1,.nilFunc,8⟩),
 (153,⟨.oth,1,.nilFunc,8⟩),
 (154,⟨.oth,1,.nilFunc,8⟩),
 (155,⟨.oth,1,.nilFunc,8⟩),
 (156,⟨.oth,1,.nilFunc,8⟩),
 (157,⟨.oth,1,.nilFunc,8⟩),
 (158,⟨.oth,1,.nilFunc,8⟩),
 (159,⟨.oth,1,.nilFunc,8⟩),
 (160,⟨.oth,1,.nilFunc,8⟩),
 (161,⟨.arr 4 150,4,.agg #[.nilFunc,.nilFunc,.nilFunc,.nilFunc],32⟩),
 (162,⟨.arr 4 150,4,.agg #[.nilFunc,.nilFunc,.nilFunc,.nilFunc],32⟩),
 (163,⟨.oth,1,.nilFunc,8⟩),
 (164,⟨.oth,1,.nilFunc,8⟩),
 (165,⟨.arr 4 4,4,.agg #[.bool false,.bool false,.bool false,.bool false],4⟩),
 (166,⟨.oth,1,.nilFunc,8⟩),
 (172,⟨.int .u32,1,.int .u32 0,4⟩),
 (175,⟨.oth,1,.nilFunc,8⟩),
 (176,⟨.oth,1,.pointer none,8⟩)]
theorem T_ok:TabOk Tryz.prog T:=by
 refine ⟨?_,?_,?_,?_,?_,?_,?_,?_,?_,?_,?_,?_,?_,?_,?_,?_,?_,?_,?_,?_,?_,?_,?_,?_,?_,?_,?_,?_,?_,?_,?_,?_,?_,?_,?_,?_,?_,?_,?_,?_,?_,?_,?_,?_,?_,?_,?_,?_,?_,?_,?_,?_,?_,?_,?_,?_,?_,?_,?_,?_,?_,?_,?_,?_,?_,?_,?_,?_,?_,?_,?_,?_,?_,?_,?_,?_,?_,?_,?_,?_,?_,?_,?_,?_,?_,?_,?_,?_,?_,?_,?_,?_,?_,?_,?_,?_,?_,?_,?_,?_,?_,?_,?_,?_,?_,?_,?_,?_,?_,?_,?_,?_,?_,?_,?_,?_,?_,?_,?_,?_,?_,?_,?_,?_,?_,?_,?_,?_,?_,?_,?_,?_,?_,?_,?_,?_,?_,?_,?_,?_,?_,?_,?_,?_,?_,?_,?_,trivial⟩<;>exact ⟨by kernel_rfl,by simp only [kdOk];kernel_rfl⟩
theorem ty_3:ty T 3=some ⟨.int .i64,1,.int .i64 0,8⟩:=by kernel_rfl
theorem ty_4:ty T 4=some ⟨.bool,1,.bool false,1⟩:=by kernel_rfl
theorem ty_5:ty T 5=some ⟨.int .u8,1,.int .u8 0,1⟩:=by kernel_rfl
theorem ty_9:ty T 9=some ⟨.str,1,.string ⟨#[]⟩,16⟩:=by kernel_rfl
theorem ty_22:ty T 22=some ⟨.slice 56,1,.slice none 0 0,24⟩:=by kernel_rfl
theorem ty_23:ty T 23=some ⟨.slice 52,1,.slice none 0 0,24⟩:=by kernel_rfl
theorem ty_24:ty T 24=some ⟨.slice 101,1,.slice none 0 0,24⟩:=by kernel_rfl
theorem ty_26:ty T 26=some ⟨.struct [(0,1),(1,1)],2,.agg #[.slice none 0 0,.slice none 0 0],48⟩:=by kernel_rfl
theorem ty_28:ty T 28=some ⟨.struct [(0,1),(1,2)],3,.agg #[.slice none 0 0,.slice none 0 0,.slice none 0 0],72⟩:=by kernel_rfl
theorem ty_30:ty T 30=some ⟨.struct [(0,1),(1,1),(2,1)],3,.agg #[.int .i64 0,.int .i64 0,.int .i64 0],24⟩:=by kernel_rfl
theorem ty_32:ty T 32=some ⟨.arr 32 5,32,.agg #[.int .u8 0,.int .u8 0,.int .u8 0,.int .u8 0,.int .u8 0,.int .u8 0,.int .u8 0,.int .u8 0,.int .u8 0,.int .u8 0,.int .u8 0,.int .u8 0,.int .u8 0,.int .u8 0,.int .u8 0,.int .u8 0,.int .u8 0,.int .u8 0,.int .u8 0,.int .u8 0,.int .u8 0,.int .u8 0,.int .u8 0,.int .u8 0,.int .u8 0,.int .u8 0,.int .u8 0,.int .u8 0,.int .u8 0,.int .u8 0,.int .u8 0,.int .u8 0],32⟩:=by kernel_rfl
theorem ty_34:ty T 34=some ⟨.struct [(0,1),(1,1)],2,.agg #[.int .i64 0,.int .i64 0],16⟩:=by kernel_rfl
theorem ty_36:ty T 36=some ⟨.struct [(0,3),(3,1),(4,1),(5,1),(6,1),(7,32),(39,1),(40,2)],42,.agg #[.int .i64 0,.int .i64 0,.int .i64 0,.int .i64 0,.int .i64 0,.int .i64 0,.int .i64 0,.int .u8 0,.int .u8 0,.int .u8 0,.int .u8 0,.int .u8 0,.int .u8 0,.int .u8 0,.int .u8 0,.int .u8 0,.int .u8 0,.int .u8 0,.int .u8 0,.int .u8 0,.int .u8 0,.int .u8 0,.int .u8 0,.int .u8 0,.int .u8 0,.int .u8 0,.int .u8 0,.int .u8 0,.int .u8 0,.int .u8 0,.int .u8 0,.int .u8 0,.int .u8 0,.int .u8 0,.int .u8 0,.int .u8 0,.int .u8 0,.int .u8 0,.int .u8 0,.int .i64 0,.int .i64 0,.int .i64 0],112⟩:=by kernel_rfl
theorem ty_38:ty T 38=some ⟨.struct [(0,1),(1,1),(2,1),(3,1),(4,42)],46,.agg #[.int .i64 0,.int .i64 0,.int .i64 0,.int .i64 0,.int .i64 0,.int .i64 0,.int .i64 0,.int .i64 0,.int .i64 0,.int .i64 0,.int .i64 0,.int .u8 0,.int .u8 0,.int .u8 0,.int .u8 0,.int .u8 0,.int .u8 0,.int .u8 0,.int .u8 0,.int .u8 0,.int .u8 0,.int .u8 0,.int .u8 0,.int .u8 0,.int .u8 0,.int .u8 0,.int .u8 0,.int .u8 0,.int .u8 0,.int .u8 0,.int .u8 0,.int .u8 0,.int .u8 0,.int .u8 0,.int .u8 0,.int .u8 0,.int .u8 0,.int .u8 0,.int .u8 0,.int .u8 0,.int .u8 0,.int .u8 0,.int .u8 0,.int .i64 0,.int .i64 0,.int .i64 0],144⟩:=by kernel_rfl
theorem ty_41:ty T 41=some ⟨.int .i64,1,.int .i64 0,8⟩:=by kernel_rfl
theorem ty_49:ty T 49=some ⟨.slice 36,1,.slice none 0 0,24⟩:=by kernel_rfl
theorem ty_50:ty T 50=some ⟨.slice 5,1,.slice none 0 0,24⟩:=by kernel_rfl
theorem ty_52:ty T 52=some ⟨.struct [(0,1),(1,1),(2,1)],3,.agg #[.int .i64 0,.int .i64 0,.slice none 0 0],40⟩:=by kernel_rfl
theorem ty_56:ty T 56=some ⟨.struct [(0,1)],1,.agg #[.slice none 0 0],24⟩:=by kernel_rfl
theorem ty_58:ty T 58=some ⟨.oth,1,.nilFunc,8⟩:=by kernel_rfl
theorem ty_61:ty T 61=some ⟨.oth,1,.pointer none,8⟩:=by kernel_rfl
theorem ty_62:ty T 62=some ⟨.map 3 58,1,.map none,8⟩:=by kernel_rfl
theorem ty_64:ty T 64=some ⟨.struct [(0,3)],3,.agg #[.slice none 0 0,.slice none 0 0,.slice none 0 0],72⟩:=by kernel_rfl
theorem ty_76:ty T 76=some ⟨.slice 79,1,.slice none 0 0,24⟩:=by kernel_rfl
theorem ty_77:ty T 77=some ⟨.slice 3,1,.slice none 0 0,24⟩:=by kernel_rfl
theorem ty_79:ty T 79=some ⟨.struct [(0,1),(1,1),(2,1),(3,1)],4,.agg #[.int .i64 0,.int .i64 0,.string ⟨#[]⟩,.slice none 0 0],56⟩:=by kernel_rfl
theorem ty_101:ty T 101=some ⟨.arr 2 3,2,.agg #[.int .i64 0,.int .i64 0],16⟩:=by kernel_rfl
theorem ty_102:ty T 102=some ⟨.arr 2 3,2,.agg #[.int .i64 0,.int .i64 0],16⟩:=by kernel_rfl
theorem ty_107:ty T 107=some ⟨.oth,1,.pointer none,8⟩:=by kernel_rfl
theorem ty_108:ty T 108=some ⟨.arr 11 107,11,.agg #[.pointer none,.pointer none,.pointer none,.pointer none,.pointer none,.pointer none,.pointer none,.pointer none,.pointer none,.pointer none,.pointer none],88⟩:=by kernel_rfl
theorem ty_144:ty T 144=some ⟨.struct [(0,3),(3,1),(4,1)],5,.agg #[.int .i64 0,.int .i64 0,.int .i64 0,.int .i64 0,.int .i64 0],40⟩:=by kernel_rfl
theorem ty_146:ty T 146=some ⟨.int .u64,1,.int .u64 0,8⟩:=by kernel_rfl

theorem keyOk_int_:KeyOk Tryz.prog 3 .i:=keyOk_int Tryz.underlying3

structure Hd where
 line:Int
 at_:Int
 arr:Int
 leg:Int
 frm:Int
 to_:Int
 many:Int
 root:Vector UInt8 32
 time:Int
 se:Int
 ss:Int
 deriving DecidableEq
instance :Inhabited Hd:=⟨⟨0,0,0,0,0,0,0,Vector.replicate 32 0,0,0,0⟩⟩
abbrev cI (n:Int):D:= .c (.int .i64 n)
def rootD (r:List UInt8):List D:=r.map fun b=> .c (.int .u8 b.toNat)
def tailD (h:Hd):List D:=[cI h.time,cI h.se,cI h.ss]
def handD (h:Hd):List D:=cI h.line :: cI h.at_ :: cI h.arr :: cI h.leg :: cI h.frm :: cI h.to_ :: cI h.many :: (rootD h.root.toList++tailD h)
theorem rootD_ln (r:List UInt8):(rootD r).length=r.length:=by simp [rootD]
theorem hd_ln (h:Hd):(handD h).length=42:=by simp [handD,tailD,rootD_ln]
theorem dV_len (l:List D):(dV l).length=l.length:=by simp [dV]
theorem hd_sz (h:Hd):(dV (handD h)).length=42:=by rw [dV_len,hd_ln]
theorem hd_take (h:Hd):(dV (handD h)).take 42=dV (handD h):=by rw [List.take_of_length_le];rw [hd_sz];exact Nat.le_refl _
theorem hd_takeD (h:Hd):(handD h).take 42=handD h:=by rw [List.take_of_length_le];rw [hd_ln];exact Nat.le_refl _
theorem hd_t3 (h:Hd):(dV (handD h)).take 3=[vI h.line,vI h.at_,vI h.arr]:=rfl
theorem hd_h0 (h:Hd):(dV (handD h)).head? =some (vI h.line):=rfl
theorem hd_h1 (h:Hd):((dV (handD h)).drop 1).head? =some (vI h.at_):=rfl
theorem hd_h2 (h:Hd):((dV (handD h)).drop 2).head? =some (vI h.arr):=rfl
theorem hd_h3 (h:Hd):((dV (handD h)).drop 3).head? =some (vI h.leg):=rfl
theorem hd_h4 (h:Hd):((dV (handD h)).drop 4).head? =some (vI h.frm):=rfl
theorem hd_h5 (h:Hd):((dV (handD h)).drop 5).head? =some (vI h.to_):=rfl
theorem hd_h6 (h:Hd):((dV (handD h)).drop 6).head? =some (vI h.many):=rfl
theorem hd_d7 (h:Hd):(handD h).drop 7=rootD h.root.toList++tailD h:=rfl
theorem hd_d39 (h:Hd):(handD h).drop 39=tailD h:=by
 rw [show (39:Nat)=7+32 from rfl,← List.drop_drop,hd_d7,List.drop_left' (by rw [rootD_ln,Vector.length_toList])]
theorem hd_d39V (h:Hd):(dV (handD h)).drop 39=dV (tailD h):=by rw [← hd_d39];simp [dV]
theorem hd_h39 (h:Hd):((dV (handD h)).drop 39).head? =some (vI h.time):=by rw [hd_d39V];rfl
theorem hd_h40 (h:Hd):((dV (handD h)).drop 40).head? =some (vI h.se):=by rw [show (40:Nat)=39+1 from rfl,← List.drop_drop,hd_d39V];rfl
theorem hd_h41 (h:Hd):((dV (handD h)).drop 41).head? =some (vI h.ss):=by rw [show (41:Nat)=39+2 from rfl,← List.drop_drop,hd_d39V];rfl
theorem dV_drop (k:Nat) (l:List D):dV (l.drop k)=(dV l).drop k:=by simp [dV]
theorem hd_p0 (h:Hd):(dV ((handD h).drop 1)).head? =some (vI h.at_):=rfl
theorem hd_p1 (h:Hd):(dV ((handD h).drop 2)).head? =some (vI h.arr):=rfl
theorem hd_p3 (h:Hd):(dV ((handD h).drop 3)).head? =some (vI h.leg):=rfl
theorem hd_p4 (h:Hd):(dV ((handD h).drop 4)).head? =some (vI h.frm):=rfl
theorem hd_p5 (h:Hd):(dV ((handD h).drop 5)).head? =some (vI h.to_):=rfl
theorem hd_p6 (h:Hd):(dV ((handD h).drop 6)).head? =some (vI h.many):=rfl
theorem hd_p39 (h:Hd):(dV ((handD h).drop 39)).head? =some (vI h.time):=by rw [dV_drop,hd_h39]
theorem hd_p40 (h:Hd):(dV ((handD h).drop 40)).head? =some (vI h.se):=by rw [dV_drop,hd_h40]
theorem hd_p41 (h:Hd):(dV ((handD h).drop 41)).head? =some (vI h.ss):=by rw [dV_drop,hd_h41]
theorem hd_rt (h:Hd):((handD h).drop 7).take 32=rootD h.root.toList:=by rw [hd_d7,List.take_left' (by rw [rootD_ln,Vector.length_toList])]
theorem hd_rtV (h:Hd):((dV (handD h)).drop 7).take 32=dV (rootD h.root.toList):=by rw [← hd_rt];simp [dV]
def rootK (r:List UInt8):List (IntKind×Int):=r.map fun b=>(.u8,(b.toNat:Int))
def handK (h:Hd):List (IntKind×Int):=(.i64,h.line) :: (.i64,h.at_) :: (.i64,h.arr) :: (.i64,h.leg) :: (.i64,h.frm) :: (.i64,h.to_) :: (.i64,h.many) :: (rootK h.root.toList++[(.i64,h.time),(.i64,h.se),(.i64,h.ss)])
def handKs:List IntKind:=[.i64,.i64,.i64,.i64,.i64,.i64,.i64]++List.replicate 32 .u8++[.i64,.i64,.i64]
theorem kc_app:∀ (l:List (IntKind×Int)) (r:List V) (m:List (IntKind×Int)),kcells r=some m→kcells (l.map (fun p=> .d (.c (.int p.1 p.2)))++r)=some (l++m)
 |[],r,m,h=>h
 |p :: l,r,m,h=>by simp only [List.map_cons,List.cons_append,kcells,kc_app l r m h,Option.map_some]
theorem dV_K (l:List (IntKind×Int)):dV (l.map fun p=> .c (.int p.1 p.2))=l.map (fun p=>V.d (.c (.int p.1 p.2))):=by simp [dV]
theorem handD_K (h:Hd):handD h=(handK h).map fun p=> .c (.int p.1 p.2):=by simp [handD,handK,rootD,rootK,tailD,List.map_map]
theorem hd_kc (h:Hd):kcells (dV (handD h))=some (handK h):=by
 rw [handD_K,dV_K]
 have:=kc_app (handK h) [] [] rfl
 simpa using this
theorem ic_none:∀ (l:List (IntKind×Int)),(∃ p∈l,p.1≠ .i64)→icells (l.map fun p=> .d (.c (.int p.1 p.2)))=none
 |[],h=>by obtain ⟨p,hp,_⟩:=h;cases hp
 |(k,n) :: l,h=>by
   by_cases hk:k= .i64
   ·subst hk
    have:∃ p∈l,p.1≠IntKind.i64:=by
     obtain ⟨p,hp,hn⟩:=h
     rcases List.mem_cons.1 hp with rfl|hp
     ·exact absurd rfl hn
     ·exact ⟨p,hp,hn⟩
    simp only [List.map_cons,icells,ic_none l this,Option.map_none]
   ·simp only [List.map_cons]
    unfold icells
    split
    ·rename_i heq;cases heq
    ·rename_i heq;simp only [List.cons.injEq,V.d.injEq,D.c.injEq,Value.int.injEq] at heq;exact absurd heq.1.1 hk
    ·rfl
theorem hd_ic (h:Hd):icells (dV (handD h))=none:=by
 rw [handD_K,dV_K]
 refine ic_none _ ⟨(.u8,((h.root[0]).toNat:Int)),?_,by simp⟩
 unfold handK rootK
 have:h.root[0]∈h.root.toList:=by simp
 simp only [List.mem_cons,List.mem_append]
 exact .inr (.inr (.inr (.inr (.inr (.inr (.inr (.inl (List.mem_map_of_mem (f:=fun b:UInt8=>(IntKind.u8,(b.toNat:Int))) this))))))))
theorem hd_ks (h:Hd):(handK h).map (·.1)=handKs:=by
 have:∀ l:List UInt8,(rootK l).map (·.1)=List.replicate l.length IntKind.u8:=fun l=>by induction l with
  |nil=>rfl
  |cons b l ih=>rw [List.length_cons,List.replicate_succ,← ih];rfl
 unfold handK handKs
 simp [this]
theorem rootK_inj {a b:List UInt8} (h:rootK a=rootK b):a=b:=by
 unfold rootK at h
 exact (List.map_inj_right (fun x y e=>by simp only [Prod.mk.injEq,true_and] at e;exact UInt8.toNat_inj.1 (by exact_mod_cast e))).1 h
theorem handK_inj {a b:Hd} (h:handK a=handK b):a=b:=by
 obtain ⟨a1,a2,a3,a4,a5,a6,a7,a8,a9,a10,a11⟩:=a
 obtain ⟨b1,b2,b3,b4,b5,b6,b7,b8,b9,b10,b11⟩:=b
 simp only [handK,List.cons.injEq,Prod.mk.injEq,true_and] at h
 obtain ⟨rfl,rfl,rfl,rfl,rfl,rfl,rfl,h⟩:=h
 have hl:=List.append_inj h (by simp [rootK])
 have h8:a8=b8:=Vector.toList_inj.1 (rootK_inj hl.1)
 simp at hl
 obtain ⟨_,rfl,rfl,rfl⟩:=hl
 rw [h8]
theorem hd_beq (a b:Hd):(handK a==handK b)=decide (a=b):=by
 rw [Bool.eq_iff_iff]
 simp only [beq_iff_eq,decide_eq_true_eq]
 exact ⟨handK_inj,fun e=>by rw [e]⟩
theorem hd_s6 (h:Hd) (x:Int):splice (dV (handD h)) 6 [vI x]=dV (handD { h with many:=x }):=rfl
theorem hd_s40 (h:Hd) (x y:Int):splice (dV (handD h)) 40 [vI x,vI y]=dV (handD { h with se:=x,ss:=y }):=by
 unfold splice
 have e1:(dV (handD h)).take 40=(dV (handD h)).take 39++[vI h.time]:=by
  rw [show (40:Nat)=39+1 from rfl,List.take_add,hd_d39V];rfl
 have e2:(dV (handD h)).take 39=(dV (handD { h with se:=x,ss:=y })).take 39:=by
  simp only [handD,dV,List.map_cons,List.map_append]
  rw [show (39:Nat)=38+1 from rfl]
  simp only [List.take_succ_cons]
  congr 7
  rw [List.take_left' (by simp [rootD_ln]),List.take_left' (by simp [rootD_ln])]
 have e3:(dV (handD h)).drop (40+([vI x,vI y]:List V).length)=[]:=List.drop_eq_nil_of_le (by rw [hd_sz];simp)
 rw [e1,e2,e3]
 have:dV (handD { h with se:=x,ss:=y })=(dV (handD { h with se:=x,ss:=y })).take 39++(dV (handD { h with se:=x,ss:=y })).drop 39:=(List.take_append_drop _ _).symm
 rw [hd_d39V] at this
 refine Eq.trans ?_ this.symm
 rw [List.append_nil,List.append_assoc]
 rfl
set_option linter.defProp false in
def handS:=And.intro @hd_ln (And.intro @hd_sz (And.intro @hd_take (And.intro @hd_takeD (And.intro @hd_t3 (And.intro @hd_h0 (And.intro @hd_h1 (And.intro @hd_h2 (And.intro @hd_h3 (And.intro @hd_h4 (And.intro @hd_h5 (And.intro @hd_h6 (And.intro @hd_h39 (And.intro @hd_h40 (And.intro @hd_h41 (And.intro @hd_p0 (And.intro @hd_p1 (And.intro @hd_p3 (And.intro @hd_p4 (And.intro @hd_p5 (And.intro @hd_p6 (And.intro @hd_p39 (And.intro @hd_p40 (And.intro @hd_p41 (And.intro @hd_rt (And.intro @hd_rtV (And.intro @hd_kc (And.intro @hd_ic (And.intro @hd_ks @hd_beq))))))))))))))))))))))))))))
def byD (b:UInt8):List D:=[.c (.int .u8 b.toNat)]
abbrev bsD (l:List UInt8):D:= .sl 1 (byD 0) (l.map byD)
def strL (l:List UInt8):ByteArray:=⟨l.toArray⟩
theorem bytesD_str (l:List UInt8):bytesD (strL l)=l.map byD:=rfl
theorem u8s_by:∀ l:List UInt8,u8s (l.map byD)=some (l.map fun b=>(b.toNat:Int))
 |[]=>rfl
 |b :: l=>by rw [List.map_cons,byD,u8s,u8s_by l];rfl
theorem strOf_by (l:List UInt8):strOfNums (l.map fun b=>(b.toNat:Int))=strL l:=by
 unfold strOfNums strL
 congr 2
 rw [List.map_map]
 refine (List.map_congr_left fun b _=>?_).trans (List.map_id _)
 simp
theorem rootD_by (l:List UInt8):(rootD l).map (fun d=>[d])=l.map byD:=by simp [rootD,byD]
theorem str_sz (l:List UInt8):(strL l).data.toList=l:=rfl
theorem str_tl (l:List UInt8):(strL l).toList=l:=by rw [ByteArray.toList_eq];rfl
theorem ta_n:toAs []=some []:=rfl
theorem ta_a {xs:List D} {vs:List V} {l:List A} (h:toAs vs=some l):toAs (.agg (dV xs) :: vs)=some (.agg xs :: l):=by simp [toAs,toA_dV,h]
theorem ta_d {x:D} {vs:List V} {l:List A} (h:toAs vs=some l):toAs (.d x :: vs)=some (.one x :: l):=by simp [toAs,toA,toD,h]
theorem ta_o {n sz:Nat} {d0:List D} {es:List (List D)} {vs:List V} {l:List A} (h:toAs vs=some l):toAs (.ow n sz d0 es :: vs)=some (.one (.sl sz d0 es) :: l):=by simp [toAs,toA,toD,h]

structure Pk where
 frm:Int
 to_:Int
 data:List UInt8
 deriving DecidableEq
instance :Inhabited Pk:=⟨⟨0,0,[]⟩⟩
def pkD (x:Pk):List D:=[.c (.int .i64 x.frm),.c (.int .i64 x.to_),bsD x.data]
theorem pkD_len (x:Pk):(dV (pkD x)).length=3:=rfl
theorem pkD_take (x:Pk):(dV (pkD x)).take 3=dV (pkD x):=rfl
theorem pkD_ln (x:Pk):(pkD x).length=3:=rfl
theorem pkD_hd (x:Pk):(dV (pkD x)).head? =some (.d (.c (.int .i64 x.frm))):=rfl
theorem pkD_ic (x:Pk):(dV (pkD x)).length=3:=rfl
theorem pkD_d1 (x:Pk):(dV (pkD x)).drop 1=[.d (.c (.int .i64 x.to_)),.d (bsD x.data)]:=rfl
theorem pkD_d2 (x:Pk):(dV (pkD x)).drop 2=[.d (bsD x.data)]:=rfl
set_option linter.defProp false in
def pkD_B:=And.intro @pkD_len ( And.intro @pkD_take ( And.intro @pkD_hd ( And.intro @pkD_ln ( And.intro @pkD_ic ( And.intro @pkD_d1 (@pkD_d2))))))
abbrev Pr:=Int×Int
def prD (x:Pr):List D:=[.c (.int .i64 x.1),.c (.int .i64 x.2)]
theorem prD_len (x:Pr):(dV (prD x)).length=2:=rfl
theorem prD_take (x:Pr):(dV (prD x)).take 2=dV (prD x):=rfl
theorem prD_ln (x:Pr):(prD x).length=2:=rfl
theorem prD_hd (x:Pr):(dV (prD x)).head? =some (.d (.c (.int .i64 x.1))):=rfl
theorem prD_ic (x:Pr):icells (dV (prD x))=some [x.1,x.2]:=rfl
theorem prD_d1 (x:Pr):(dV (prD x)).drop 1=[.d (.c (.int .i64 x.2))]:=rfl
set_option linter.defProp false in
def prD_B:=And.intro @prD_len ( And.intro @prD_take ( And.intro @prD_hd ( And.intro @prD_ln ( And.intro @prD_ic (@prD_d1)))))
set_option maxRecDepth 100000
set_option maxHeartbeats 4000000
theorem eqT_pair:EqT Tryz.prog 101 (List.replicate 2 .i64) 2:=by
 cases hi:Tryz.prog.info? 3 with
 |none=>exact absurd hi (by decide+kernel)
 |some i=>exact eqT_arr (e:=3) (by kernel_rfl) Tryz.underlying3 hi (by kernel_rfl) (by kernel_rfl)
theorem eqPair:EqInts Tryz.prog 101 2:=eqI_of (eqK_of eqT_pair (by omega) (fun w=>by unfold Go.isAgg;rw [Sem.run_bind,run_underlying Tryz.underlying101 w];rfl) (by kernel_rfl))
def idxP (p:Nat→Bool) (n:Nat):Int:=match (List.range n).find? p with
 |some i=>i
 |none=> -1
theorem idxP_hit {p:Nat→Bool} {n k:Nat} (hk:k < n) (h:p k=true) (h0:∀ i,i < k→p i=false):idxP p n=k:=by
 have:(List.range n).find? p=some k:=by
  rw [List.find?_range_eq_some]
  exact ⟨h,by simpa using hk,fun j hj=>by rw [h0 j hj];rfl⟩
 rw [idxP,this]
theorem idxP_miss {p:Nat→Bool} {n:Nat} (h0:∀ i,i < n→p i=false):idxP p n= -1:=by
 have:(List.range n).find? p=none:=by
  rw [List.find?_eq_none]
  intro i hi
  rw [h0 i (by simpa using hi)];simp
 rw [idxP,this]
theorem idxP_any (p:Nat→Bool) (n:Nat):decide (idxP p n≥0)=(List.range n).any p:=by
 unfold idxP
 cases h:(List.range n).find? p with
 |some i=>
   rw [decide_eq_true (by show (i:Int)≥0;omega)]
   have:=List.find?_some h
   have hm:=List.mem_of_find?_eq_some h
   exact (List.any_eq_true.2 ⟨i,hm,this⟩).symm
 |none=>
   rw [decide_eq_false (by show ¬ (-1:Int)≥0;omega)]
   rw [List.find?_eq_none] at h
   exact (List.any_eq_false.2 h).symm
theorem mem_getD {α:Type} {l:List α} {d:α} {k:Nat} (h:k < l.length):l.getD k d∈l:=by
 rw [List.getD,List.getElem?_eq_getElem h];simp
theorem any_getD {α:Type} (l:List α) (d:α) (p:α→Bool):((List.range l.length).any fun k=>p (l.getD k d))=l.any p:=by
 rw [Bool.eq_iff_iff,List.any_eq_true,List.any_eq_true]
 constructor
 ·rintro ⟨i,hi,h⟩
  have hi:i < l.length:=by simpa using hi
  have e:l.getD i d=l[i]:=by simp [List.getD,hi]
  rw [e] at h
  exact ⟨_,List.getElem_mem hi,h⟩
 ·rintro ⟨x,hx,h⟩
  obtain ⟨i,hi,rfl⟩:=List.getElem_of_mem hx
  refine ⟨i,by simpa using hi,?_⟩
  have e:l.getD i d=l[i]:=by simp [List.getD,hi]
  rw [e];exact h
abbrev aPk (x:Pk):A:= .agg (pkD x)
abbrev aPks (l:List Pk):A:= .one (.sl 3 (pkD default) (l.map pkD))
abbrev vPks (l:List Pk):V:= .d (.sl 3 (pkD default) (l.map pkD))
abbrev aPrs (l:List (Int×Int)):A:= .one (.sl 2 (prD default) (l.map prD))
abbrev vPrs (l:List (Int×Int)):V:= .d (.sl 2 (prD default) (l.map prD))
theorem pks_index (l:List Pk) (p:Pk→Bool) (hl:l.length≤140737488351232):Spec Tryz.prog 88 [aPks l,.one (.x (FnR Tryz.prog (FnM aPk p l)))] (.r1 (aI (idxP (fun k=>p (l.getD k default)) l.length))):=by
 refine spec_of T_ok Tryz.func88 (by dsimp only [Tryz.f88]) rfl rfl (by simp) fun w F=>?_
 obtain ⟨Pk,hPk⟩:∃ Pk:Nat→Bool,Pk=(fun k=>p (l.getD k default)):=⟨_,rfl⟩
 rw [← hPk]
 repeat' (first |(with_reducible first |refine aw_seq ?_|refine aw_block ?_)|((first |((with_reducible refine aw_regionA T_ok ?_ ?_);kernel_rfl)|(with_reducible refine aw_ret ?_) );simp only [↓avP,avQ,avR,forall_const,implies_true,Nat.reduceEqDiff,Nat.reduceAdd,reduceCtorEq,avS,ty_23,ty_24]))
 refine aw_loopI (fun k:Nat=>⟨[(0,vPks l),(1,.d (.x (FnR Tryz.prog (FnM aPk p l)))),(7,vI l.length),(8,vI k)],[],0⟩) (fun k=>k≤l.length∧∀ i,i < k→Pk i=false) (fun k=>l.length - k) 0 ⟨Nat.zero_le _,fun i hi=>absurd hi (Nat.not_lt_zero i)⟩ (wk_of [] rfl rfl ?_ ?_) ?_
 ·simp only [wkA,reduceIte,Nat.reduceEqDiff]
  (repeat' (first |rfl|exact subVs_d _ _))
 ·simp only [wkA,reduceIte,Nat.reduceEqDiff]
 rintro k ⟨hk,h0⟩
 rcases Nat.lt_or_ge k l.length with hlt|hge
 ·have hd:=ltd hlt
  cases hp:p (l.getD k default) with
  |false=>
    repeat' (first |(with_reducible first |refine aw_seq ?_|refine two_t ?_|refine two_f ?_)|((with_reducible refine And.intro ?_ ?_);(focus (omega)))|(with_reducible refine aw_block ?_)|((first |((with_reducible refine aw_regionA T_ok ?_ ?_);kernel_rfl)|((with_reducible refine slotX_M ((l.getD k default)) ((mem_getD hlt)) (by with_unfolding_all rfl) ?_ ?_);kernel_rfl)|(with_reducible refine aw_skip ?_)|((with_reducible refine aw_condM ?_ ?_);kernel_rfl)|(with_reducible refine aw_ret ?_) );simp only [↓avP,avQ,avR,forall_const,implies_true,Nat.reduceEqDiff,Nat.reduceLeDiff,reduceCtorEq,pkD_B,ty_52,ty_23,hd,hp];try simp (disch:=omega) only [avW]))
    refine ⟨k+1,⟨by omega,fun i hi=>by rcases Nat.lt_succ_iff_lt_or_eq.1 hi with h|rfl;exact h0 i h;rw [hPk];exact hp⟩,by dsimp only;omega,wk_of [] rfl rfl ?_ ?_⟩
    ·simp only [wkA,reduceIte,Nat.reduceEqDiff]
     (repeat' (first |rfl|exact subVs_d _ _))
    ·simp only [wkA,reduceIte,Nat.reduceEqDiff]
  |true=>
    repeat' (first |(with_reducible first |refine aw_seq ?_|refine two_t ?_|refine two_f ?_)|((with_reducible refine And.intro ?_ ?_);(focus (omega)))|(with_reducible refine aw_block ?_)|((first |((with_reducible refine aw_regionA T_ok ?_ ?_);kernel_rfl)|((with_reducible refine slotX_M ((l.getD k default)) ((mem_getD hlt)) (by with_unfolding_all rfl) ?_ ?_);kernel_rfl)|(with_reducible refine aw_skip ?_)|((with_reducible refine aw_condM ?_ ?_);kernel_rfl)|(with_reducible refine aw_ret ?_) );simp only [↓avP,avQ,avR,forall_const,implies_true,Nat.reduceEqDiff,Nat.reduceLeDiff,reduceCtorEq,pkD_B,ty_52,ty_23,hd,hp];try simp (disch:=omega) only [avW]))
    exact Sub.of_eq (congrArg aI (idxP_hit hlt (by rw [hPk];exact hp) h0).symm)
 ·obtain rfl:k=l.length:=by omega
  have hd:=ged (Nat.le_refl l.length)
  repeat' (first |(with_reducible first |refine aw_seq ?_|refine two_f ?_)|((first |((with_reducible refine aw_regionA T_ok ?_ ?_);kernel_rfl)|(with_reducible refine aw_exit ?_)|((with_reducible refine aw_condM ?_ ?_);kernel_rfl)|(with_reducible refine aw_ret ?_) );simp only [↓avP,avQ,avR,forall_const,implies_true,Nat.reduceEqDiff,reduceCtorEq,avS,hd]))
  exact Sub.of_eq (congrArg aI (idxP_miss h0).symm)
theorem pks_contains (l:List Pk) (p:Pk→Bool) (hl:l.length≤140737488351232):Spec Tryz.prog 61 [aPks l,.one (.x (FnR Tryz.prog (FnM aPk p l)))] (.r1 (aB (l.any p))):=by
 refine spec_of T_ok Tryz.func61 (by dsimp only [Tryz.f61]) rfl rfl (by simp) fun w F=>?_
 repeat' (first |(with_reducible refine aw_seq ?_)|((first |((with_reducible refine aw_regionA T_ok ?_ ?_);kernel_rfl)|((with_reducible refine callI_spec (pks_index l p hl) (by with_unfolding_all rfl) ?_ ?_ ?_);kernel_rfl;kernel_rfl)|(with_reducible refine aw_ret ?_) );simp only [↓avP,avQ,avR,forall_const,implies_true,Nat.reduceEqDiff,Nat.reduceAdd,reduceCtorEq,avS]))
 exact Sub.of_eq (congrArg aB (by rw [idxP_any,any_getD]))
theorem pr_eq (a b:Int×Int):([a.1,a.2]==[b.1,b.2])=(a==b):=by
 rw [Bool.eq_iff_iff]
 simp [Prod.ext_iff]
theorem prs_index (l:List (Int×Int)) (v:Int×Int) (hl:l.length≤140737488351232):Spec Tryz.prog 105 [aPrs l,.agg (prD v)] (.r1 (aI (idxP (fun k=>v==l.getD k default) l.length))):=by
 refine spec_of T_ok Tryz.func105 (by dsimp only [Tryz.f105]) rfl rfl (by simp) fun w F=>?_
 obtain ⟨Pk,hPk⟩:∃ Pk:Nat→Bool,Pk=fun k=>v==l.getD k default:=⟨_,rfl⟩
 rw [← hPk]
 repeat' (first |(with_reducible first |refine aw_seq ?_|refine aw_block ?_)|((first |((with_reducible refine aw_regionA T_ok ?_ ?_);kernel_rfl)|(with_reducible refine aw_ret ?_) );simp only [↓avP,avQ,avR,forall_const,implies_true,Nat.reduceEqDiff,Nat.reduceAdd,reduceCtorEq,avS,ty_23,ty_24]))
 refine aw_loopI (fun k:Nat=>⟨[(0,vPrs l),(3,.ptr 0 0),(7,vI l.length),(8,vI k)],[(0,.cells 101 (dV (prD v)))],1⟩) (fun k=>k≤l.length∧∀ i,i < k→Pk i=false) (fun k=>l.length - k) 0 ⟨Nat.zero_le _,fun i hi=>absurd hi (Nat.not_lt_zero i)⟩ (wk_of [(0,some 0)] rfl rfl ?_ ?_) ?_
 ·simp only [wkA,reduceIte,Nat.reduceEqDiff]
  (repeat' (first |rfl|exact subVs_d _ _))
 ·simp only [wkA,reduceIte,Nat.reduceEqDiff]
  (repeat' (first |rfl|exact subVs_d _ _))
 rintro k ⟨hk,h0⟩
 rcases Nat.lt_or_ge k l.length with hlt|hge
 ·have hd:=ltd hlt
  cases hp:v==l.getD k default with
  |false=>
    repeat' (first |(with_reducible first |refine aw_seq ?_|refine two_t ?_|refine two_f ?_)|((with_reducible refine And.intro ?_ ?_);(focus (first |exact eqPair|omega)))|(with_reducible refine aw_block ?_)|((first |((with_reducible refine aw_regionA T_ok ?_ ?_);kernel_rfl)|((with_reducible refine aw_drawnA T_ok ?_ ?_ ?_ ?_);kernel_rfl;kernel_rfl;(focus (decide+kernel)))|(with_reducible refine aw_skip ?_)|((with_reducible refine aw_condM ?_ ?_);kernel_rfl)|(with_reducible refine aw_ret ?_) );simp only [↓avP,avQ,avR,forall_const,implies_true,Nat.reduceEqDiff,Nat.reduceAdd,Nat.reduceLeDiff,reduceCtorEq,prD_B,ty_101,ty_24,hd,pr_eq,hp];try simp (disch:=omega) only [avW]))
    refine ⟨k+1,⟨by omega,fun i hi=>by rcases Nat.lt_succ_iff_lt_or_eq.1 hi with h|rfl;exact h0 i h;rw [hPk];exact hp⟩,by dsimp only;omega,wk_of [(0,some 0)] rfl rfl ?_ ?_⟩
    ·simp only [wkA,reduceIte,Nat.reduceEqDiff]
     (repeat' (first |rfl|exact subVs_d _ _))
    ·simp only [wkA,reduceIte,Nat.reduceEqDiff]
     (repeat' (first |rfl|exact subVs_d _ _))
  |true=>
    repeat' (first |(with_reducible first |refine aw_seq ?_|refine two_t ?_|refine two_f ?_)|((with_reducible refine And.intro ?_ ?_);(focus (first |exact eqPair|omega)))|(with_reducible refine aw_block ?_)|((first |((with_reducible refine aw_regionA T_ok ?_ ?_);kernel_rfl)|((with_reducible refine aw_drawnA T_ok ?_ ?_ ?_ ?_);kernel_rfl;kernel_rfl;(focus (decide+kernel)))|(with_reducible refine aw_skip ?_)|((with_reducible refine aw_condM ?_ ?_);kernel_rfl)|(with_reducible refine aw_ret ?_) );simp only [↓avP,avQ,avR,forall_const,implies_true,Nat.reduceEqDiff,Nat.reduceAdd,Nat.reduceLeDiff,reduceCtorEq,prD_B,ty_101,ty_24,hd,pr_eq,hp];try simp (disch:=omega) only [avW]))
    exact Sub.of_eq (congrArg aI (idxP_hit hlt (by rw [hPk];exact hp) h0).symm)
 ·obtain rfl:k=l.length:=by omega
  have hd:=ged (Nat.le_refl l.length)
  repeat' (first |(with_reducible first |refine aw_seq ?_|refine two_f ?_)|((first |((with_reducible refine aw_regionA T_ok ?_ ?_);kernel_rfl)|(with_reducible refine aw_exit ?_)|((with_reducible refine aw_condM ?_ ?_);kernel_rfl)|(with_reducible refine aw_ret ?_) );simp only [↓avP,avQ,avR,forall_const,implies_true,Nat.reduceEqDiff,reduceCtorEq,avS,hd]))
  exact Sub.of_eq (congrArg aI (idxP_miss h0).symm)
theorem prs_contains (l:List (Int×Int)) (v:Int×Int) (hl:l.length≤140737488351232):Spec Tryz.prog 83 [aPrs l,.agg (prD v)] (.r1 (aB (decide (v∈l)))):=by
 refine spec_of T_ok Tryz.func83 (by dsimp only [Tryz.f83]) rfl rfl (by simp) fun w F=>?_
 repeat' (first |(with_reducible refine aw_seq ?_)|((first |((with_reducible refine aw_regionA T_ok ?_ ?_);kernel_rfl)|((with_reducible refine callI_spec (prs_index l v hl) (by with_unfolding_all rfl) ?_ ?_ ?_);kernel_rfl;kernel_rfl)|(with_reducible refine aw_ret ?_) );simp only [↓avP,avQ,avR,forall_const,implies_true,Nat.reduceEqDiff,Nat.reduceAdd,Nat.reduceLeDiff,reduceCtorEq,avS,prD_B,ty_101]))
 refine Sub.of_eq (congrArg aB ?_)
 rw [idxP_any,any_getD l default (fun x=>v==x),Bool.eq_iff_iff]
 simp
theorem isNaN_spec (x:Int):Spec Tryz.prog 106 [aI x] (.r1 (aB false)):=by
 refine spec_of T_ok Tryz.func106 (by dsimp only [Tryz.f106]) rfl rfl (by simp) fun w F=>?_
 repeat' (first |(with_reducible first |refine aw_seq ?_|refine aw_block ?_)|((first |((with_reducible refine aw_regionA T_ok ?_ ?_);kernel_rfl)|(with_reducible refine aw_ret ?_) );simp only [↓avP,avQ,avR,forall_const,implies_true,Nat.reduceEqDiff,Nat.reduceAdd,reduceCtorEq,avS,ty_23,ty_24]))
 exact Sub.of_eq (congrArg aB (by simp))
def cmpI (x y:Int):Int:=if x < y then -1 else if y < x then 1 else 0
theorem cmpInt_spec (x y:Int):Spec Tryz.prog 89 [aI x,aI y] (.r1 (aI (cmpI x y))):=by
 refine spec_of T_ok Tryz.func89 (by dsimp only [Tryz.f89]) rfl rfl (by simp) fun w F=>?_
 cases h1:decide (x < y) with
 |true=>
   repeat' (first |(with_reducible first |refine aw_seq ?_|refine two_t ?_|refine two_f ?_)|((first |((with_reducible refine aw_regionA T_ok ?_ ?_);kernel_rfl)|((with_reducible refine callI_spec (isNaN_spec _) (by with_unfolding_all rfl) ?_ ?_ ?_);kernel_rfl;kernel_rfl)|(with_reducible refine aw_skip ?_)|((with_reducible refine aw_condM ?_ ?_);kernel_rfl)|(with_reducible refine aw_ret ?_) );simp only [↓avP,avQ,avR,forall_const,implies_true,Nat.reduceEqDiff,Nat.reduceAdd,reduceCtorEq,avS,h1]))
   exact Sub.of_eq (congrArg aI (by unfold cmpI;rw [if_pos (of_decide_eq_true h1)]))
 |false=>
 cases h2:decide (x > y) with
 |true=>
   repeat' (first |(with_reducible first |refine aw_seq ?_|refine two_t ?_|refine two_f ?_)|((first |((with_reducible refine aw_regionA T_ok ?_ ?_);kernel_rfl)|((with_reducible refine callI_spec (isNaN_spec _) (by with_unfolding_all rfl) ?_ ?_ ?_);kernel_rfl;kernel_rfl)|(with_reducible refine aw_skip ?_)|((with_reducible refine aw_condM ?_ ?_);kernel_rfl)|(with_reducible refine aw_ret ?_) );simp only [↓avP,avQ,avR,forall_const,implies_true,Nat.reduceEqDiff,Nat.reduceAdd,reduceCtorEq,avS,h1,h2]))
   exact Sub.of_eq (congrArg aI (by unfold cmpI;rw [if_neg (of_decide_eq_false h1),if_pos (of_decide_eq_true h2)]))
 |false=>
   repeat' (first |(with_reducible first |refine aw_seq ?_|refine two_t ?_|refine two_f ?_)|((first |((with_reducible refine aw_regionA T_ok ?_ ?_);kernel_rfl)|((with_reducible refine callI_spec (isNaN_spec _) (by with_unfolding_all rfl) ?_ ?_ ?_);kernel_rfl;kernel_rfl)|(with_reducible refine aw_skip ?_)|((with_reducible refine aw_condM ?_ ?_);kernel_rfl)|(with_reducible refine aw_ret ?_) );simp only [↓avP,avQ,avR,forall_const,implies_true,Nat.reduceEqDiff,Nat.reduceAdd,reduceCtorEq,avS,h1,h2]))
   exact Sub.of_eq (congrArg aI (by unfold cmpI;rw [if_neg (of_decide_eq_false h1),if_neg (of_decide_eq_false h2)]))
def cmpPr (a b:Int×Int):Int:=if cmpI a.1 b.1≠0 then cmpI a.1 b.1 else cmpI a.2 b.2
theorem compare_spec (a b:Int×Int) (d0 d1:List D):Spec Tryz.prog 65 [.one (.sl 1 d0 [[cI a.1],[cI a.2]]),.one (.sl 1 d1 [[cI b.1],[cI b.2]])] (.r1 (aI (cmpPr a b))):=by
 refine spec_of T_ok Tryz.func65 (by dsimp only [Tryz.f65]) rfl rfl (by simp) fun w F=>?_
 cases h1:(cmpI a.1 b.1 != 0) with
 |true=>
   repeat' (first |(with_reducible refine aw_seq ?_)|((with_reducible refine two_intro ?_ ?_)<;>intro h<;>first |contradiction|((first |(guard_hyp h:true=true;clear h)|(revert h;intro _))))|((with_reducible refine And.intro ?_ ?_);(focus (omega)))|(with_reducible refine aw_block ?_)|((first |(with_reducible refine aw_unroll 3 ?_)|((with_reducible refine un_step ?_ ?_);(focus decide))|((with_reducible refine aw_regionA T_ok ?_ ?_);kernel_rfl)|((with_reducible refine callI_spec (cmpInt_spec _ _) (by with_unfolding_all rfl) ?_ ?_ ?_);kernel_rfl;kernel_rfl)|(with_reducible refine aw_skip ?_)|((with_reducible refine aw_condM ?_ ?_);kernel_rfl)|(with_reducible refine aw_ret ?_) );simp only [↓avP,avQ,avR,forall_const,implies_true,Nat.reduceEqDiff,Nat.reduceAdd,Nat.reduceSub,Int.reduceToNat,Nat.reduceLT,reduceCtorEq,avS,List.getD_cons_zero,Int.reduceLT,Int.cast_ofNat_Int,ty_3,ty_77,h1]))
   exact Sub.of_eq (congrArg aI (by unfold cmpPr;rw [if_pos (by simpa using h1)]))
 |false=>
 cases h2:(cmpI a.2 b.2 != 0) with
 |true=>
   repeat' (first |(with_reducible refine aw_seq ?_)|((with_reducible refine two_intro ?_ ?_)<;>intro h<;>first |contradiction|((first |(guard_hyp h:true=true;clear h)|(guard_hyp h:false=false;clear h)|(revert h;intro _))))|((with_reducible refine And.intro ?_ ?_);(focus (omega)))|(with_reducible refine aw_block ?_)|((first |(with_reducible refine aw_unroll 3 ?_)|((with_reducible refine un_step ?_ ?_);(focus decide))|((with_reducible refine aw_regionA T_ok ?_ ?_);kernel_rfl)|((with_reducible refine callI_spec (cmpInt_spec _ _) (by with_unfolding_all rfl) ?_ ?_ ?_);kernel_rfl;kernel_rfl)|(with_reducible first |refine aw_skip ?_|refine aw_exit ?_)|((with_reducible refine aw_condM ?_ ?_);kernel_rfl)|(with_reducible refine aw_ret ?_) );simp only [↓avP,avQ,avR,forall_const,implies_true,Nat.reduceEqDiff,Nat.reduceAdd,Nat.reduceSub,Int.reduceToNat,Nat.reduceLT,reduceCtorEq,avS,List.getD_cons_zero,List.getD_cons_succ,Int.reduceAdd,Int.reduceLT,Int.cast_ofNat_Int,ty_3,ty_77,h1,h2];try simp (disch:=omega) only [av_w]))
   exact Sub.of_eq (congrArg aI (by unfold cmpPr;rw [if_neg (by simpa using h1)]))
 |false=>
   repeat' (first |(with_reducible refine aw_seq ?_)|((with_reducible refine two_intro ?_ ?_)<;>intro h<;>first |contradiction|((first |(guard_hyp h:true=true;clear h)|(guard_hyp h:false=false;clear h)|(revert h;intro _))))|((with_reducible refine And.intro ?_ ?_);(focus (omega)))|(with_reducible refine aw_block ?_)|((first |(with_reducible refine aw_unroll 3 ?_)|((with_reducible refine un_step ?_ ?_);(focus decide))|((with_reducible refine aw_regionA T_ok ?_ ?_);kernel_rfl)|((with_reducible refine callI_spec (cmpInt_spec _ _) (by with_unfolding_all rfl) ?_ ?_ ?_);kernel_rfl;kernel_rfl)|(with_reducible first |refine aw_skip ?_|refine aw_exit ?_)|((with_reducible refine aw_condM ?_ ?_);kernel_rfl)|(with_reducible refine aw_ret ?_) );simp only [↓avP,avQ,avR,forall_const,implies_true,Nat.reduceEqDiff,Nat.reduceAdd,Nat.reduceSub,Int.reduceToNat,Nat.reduceLT,reduceCtorEq,avS,List.getD_cons_zero,List.getD_cons_succ,Int.reduceAdd,Int.reduceLT,Int.cast_ofNat_Int,ty_3,ty_77,h1,h2];try simp (disch:=omega) only [av_w]))
   exact Sub.of_eq (congrArg aI (by unfold cmpPr;rw [if_neg (by simpa using h1)];exact (by simpa using h2:cmpI a.2 b.2=0).symm))
end Go.Proofs.YthidfoohhhkobaaGreat
