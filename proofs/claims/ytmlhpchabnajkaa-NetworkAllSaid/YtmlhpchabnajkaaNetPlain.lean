/- links and packets, plainly: no program in sight -/
import Derived.Test.YtmlhpchabnajkaaCel
namespace Go.Proofs.Ytmlhpchabnajkaa
set_option linter.unusedSimpArgs false
set_option linter.unusedVariables false
structure Pkt where
  src : Int
  dst : Int
  data : List UInt8
structure NetM where
  queue : List Pkt
  apart : List (Int × Int)
def siteB (n : Int) : Bool := decide (0 ≤ n) && decide (n < 24)
def validB (a b : Int) : Bool := decide (0 ≤ a) && (decide (a < b) && decide (b < 24))
def pktB (p : Pkt) : Bool := validB (min p.src p.dst) (max p.src p.dst) && decide (p.data.length ≤ 1048576)
theorem pktB_iff (p : Pkt) : pktB p = true ↔ 0 ≤ p.src ∧ p.src < 24 ∧ 0 ≤ p.dst ∧ p.dst < 24 ∧ p.src ≠ p.dst ∧ p.data.length ≤ 1048576 := by
  unfold pktB validB
  simp only [Bool.and_eq_true, decide_eq_true_eq]
  omega
def ltP (p q : Int × Int) : Bool := decide (p.1 < q.1) || (decide (p.1 = q.1) && decide (p.2 < q.2))
/-- the pairs behind a pair: valid, and each greater than the one before -/
def apartF (prev : Option (Int × Int)) : List (Int × Int) → Bool
  | [] => true
  | p :: l => validB p.1 p.2 && (match prev with | none => true | some q => ltP q p) && apartF (some p) l
def apartB (l : List (Int × Int)) : Bool := apartF none l
def netB (n : NetM) : Bool := decide (n.queue.length ≤ 4096) && n.queue.all pktB && apartB n.apart
def chk (n : NetM) : Int := if netB n then 0 else 60
def NetM.nil : NetM := ⟨[], []⟩
def Pkt.nil : Pkt := ⟨0, 0, []⟩
/-- Send -/
def sendE (n : NetM) (p : Pkt) : Int := if netB n && pktB p then (if n.queue.length = 4096 then 2 else 0) else 60
def sendN (n : NetM) (p : Pkt) : NetM := if sendE n p = 0 then ⟨n.queue ++ [p], n.apart⟩ else .nil
/-- what Deliver, Lose and Repeat say -/
def askE (n : NetM) (i : Int) : Int := if netB n then (if 0 ≤ i ∧ i < n.queue.length then 0 else 1) else 60
def dropAt (n : NetM) (i : Nat) : NetM := ⟨n.queue.take i ++ n.queue.drop (i + 1), n.apart⟩
def linkOf (a b : Int) : Int × Int := (min a b, max a b)
def cutB (l : List (Int × Int)) (a b : Int) : Bool := l.contains (linkOf a b)
def delP (n : NetM) (i : Int) : Pkt := if askE n i = 0 then (match n.queue[i.toNat]? with | none => .nil | some p => if cutB n.apart p.src p.dst then .nil else p) else .nil
def loseN (n : NetM) (i : Int) : NetM := if askE n i = 0 then dropAt n i.toNat else .nil
def atP (n : NetM) (i : Int) : Pkt := if askE n i = 0 then (match n.queue[i.toNat]? with | none => .nil | some p => p) else .nil
def repE (n : NetM) (i : Int) : Int := if askE n i = 0 then sendE n (atP n i) else askE n i
def repN (n : NetM) (i : Int) : NetM := if askE n i = 0 then sendN n (atP n i) else .nil
/-- Cut -/
def cutE (n : NetM) (a b : Int) : Int := if netB n then (if validB (min a b) (max a b) then 0 else 1) else 60
/-- all pairs, in order -/
def rowsOf (a : Nat) : List (Int × Int) := (List.range 24).filterMap fun b => if a < b then some ((a : Int), (b : Int)) else none
def allPairs : List (Int × Int) := (List.range 24).flatMap rowsOf
def keepB (l : List (Int × Int)) (c : Int × Int) (on : Bool) (p : Int × Int) : Bool := if p = c then on else l.contains p
def cutL (l : List (Int × Int)) (c : Int × Int) (on : Bool) : List (Int × Int) := allPairs.filter (keepB l c on)
def cutN (n : NetM) (a b : Int) (on : Bool) : NetM := if cutE n a b = 0 then ⟨n.queue, cutL n.apart (linkOf a b) on⟩ else .nil
def samePktB (p q : Pkt) : Bool := decide (p.src = q.src) && (decide (p.dst = q.dst) && decide (p.data = q.data))
def sameQ : List Pkt → List Pkt → Bool
  | [], [] => true
  | p :: l, q :: m => samePktB p q && sameQ l m
  | _, _ => false
def sameB (a b : NetM) : Bool := sameQ a.queue b.queue && decide (a.apart = b.apart)
def fewB (n : NetM) : Bool := decide (n.queue.length ≤ 40) && decide (n.apart.length ≤ 40)
end Go.Proofs.Ytmlhpchabnajkaa
