import Derived.Test.YthidfoohhhkobaaGreatG11
namespace Go.Proofs.YthidfoohhhkobaaGreat
set_option linter.unusedSimpArgs false
set_option linter.unusedVariables false
open Go.RowKit
structure ActP where
 kind:Int
 peer:Int
 to_:Int
 at_:Int
 hand:Hd
 deriving DecidableEq
def actD (a:ActP):List D:=cI a.kind :: cI a.peer :: cI a.to_ :: cI a.at_ :: handD a.hand
theorem actD_V (a:ActP):dV (actD a)=vI a.kind :: vI a.peer :: vI a.to_ :: vI a.at_ :: dV (handD a.hand):=rfl
theorem actD_ln (a:ActP):(actD a).length=46:=by simp [actD,hd_ln]
def learnL (l:List Hd) (h:Hd):List Hd:=if foundH l h=true then l else l.take (lbH l h)++[h]++l.drop (lbH l h)
def setPeer (l:List (List Hd)) (i:Int) (h:Hd):List (List Hd):=l.set i.toNat (learnL (l.getD i.toNat []) h)
def tellPk (n:Nat) (i:Int) (h:Hd):List Pk:=((List.range n).filter (fun k:Nat=>decide ((k:Int)≠i))).map (fun k:Nat=>⟨i,(k:Int),msg h⟩)
def syncPk (l:List Hd) (i k:Int):List Pk:=l.map fun h=>⟨i,k,msg h⟩
def inR (r:RoomP) (n:Int):Bool:=decide (n≥0)&&decide (n < r.peers.length)
def actE (r:RoomP) (a:ActP):Int:=
 if a.kind=1 then (if inR r a.peer=false then 1 else if formB a.hand=false then 480 else 0)
 else if a.kind=2 then (if inR r a.peer=false∨inR r a.to_=false∨a.peer=a.to_ then 1 else 0)
 else if a.kind=3∨a.kind=4 then atErr r.net a.at_
 else if a.kind=5 then repErr r.net a.at_
 else 1
def actR (r:RoomP) (a:ActP):RoomP:=
 if a.kind=1 then ⟨setPeer r.peers a.peer a.hand,⟨r.net.queue++tellPk r.peers.length a.peer a.hand,r.net.apart⟩⟩
 else if a.kind=2 then ⟨r.peers,⟨r.net.queue++syncPk (r.peers.getD a.peer.toNat []) a.peer a.to_,r.net.apart⟩⟩
 else if a.kind=3 then (let p:=delP r.net a.at_
  ⟨if p.frm=p.to_ then r.peers else setPeer r.peers p.to_ (readH p.data).1,loseN r.net a.at_⟩)
 else if a.kind=4 then ⟨r.peers,loseN r.net a.at_⟩
 else ⟨r.peers,repN r.net a.at_⟩
def doE (r:RoomP) (a:ActP):Int:=if roomChk r≠0 then 540 else actE r a
def doR (r:RoomP) (a:ActP):RoomP:=if doE r a=0 then actR r a else room0
def fewR (r:RoomP):Prop:=r.net.queue.length≤3000∧∀ l∈r.peers,l.length≤1000
theorem linkB_mm {i k:Int} {n:Nat} (hn:n≤24) (h1:0≤i) (h2:i < n) (h3:0≤k) (h4:k < n) (hne:i≠k):linkB (mm i k)=true:=by
 unfold linkB mm
 simp only [Bool.and_eq_true,decide_eq_true_eq]
 split<;>split<;>omega
theorem packetB_of {i k:Int} {n:Nat} {d:List UInt8} (hn:n≤24) (h1:0≤i) (h2:i < n) (h3:0≤k) (h4:k < n) (hne:i≠k) (hd:d.length≤1048576):packetB ⟨i,k,d⟩=true:=by
 unfold packetB
 rw [linkB_mm hn h1 h2 h3 h4 hne,Bool.true_and]
 exact decide_eq_true (by dsimp only;omega)
theorem netChk_snoc {n:NetP} {p:Pk} (h:netChk n=0) (hp:packetB p=true) (hl:n.queue.length < 4096):netChk ⟨n.queue++[p],n.apart⟩=0:=by
 unfold netChk at h ⊢
 split at h
 ·cases h
 ·rename_i hn
  rw [if_neg]
  ·exact h
  ·intro hc
   rcases hc with hc|hc
   ·simp at hc;omega
   ·refine hn (.inr ?_)
    simpa [hp] using hc
theorem send_ok {n:NetP} {p:Pk} (h:netChk n=0) (hp:packetB p=true) (hl:n.queue.length < 4096):sendErr n p=0∧sendN n p=⟨n.queue++[p],n.apart⟩:=by
 have he:sendErr n p=0:=by
  unfold sendErr
  rw [if_neg (by simp [h,hp]),if_neg (by omega)]
 exact ⟨he,by rw [sendN,if_pos he]⟩
end Go.Proofs.YthidfoohhhkobaaGreat
