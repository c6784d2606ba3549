/- happens, plainly -/
import Derived.Test.YtmlhpchabnajkaaNetCut
namespace Go.Proofs.Ytmlhpchabnajkaa
set_option linter.unusedSimpArgs false
set_option linter.unusedVariables false
structure Mv where
  kind : UInt8
  at_ : UInt8
  a : UInt8
  b : UInt8
  data : UInt8
def hapAt (n : NetM) (m : Mv) : Int := if 0 < n.queue.length then ((m.at_.toNat % n.queue.length : Nat) : Int) else 0
def hapA (m : Mv) : Int := ((m.a.toNat % 24 : Nat) : Int)
def hapB (m : Mv) : Int := ((m.b.toNat % 24 : Nat) : Int)
def hapQ (m : Mv) : Pkt := ⟨hapA m, hapB m, [m.data]⟩
def hapK (m : Mv) : Nat := m.kind.toNat % 6
def hapN (n : NetM) (m : Mv) : NetM := match hapK m with
  | 0 => sendN n (hapQ m)
  | 1 => loseN n (hapAt n m)
  | 2 => loseN n (hapAt n m)
  | 3 => repN n (hapAt n m)
  | 4 => cutN n (hapA m) (hapB m) true
  | _ => cutN n (hapA m) (hapB m) false
def hapP (n : NetM) (m : Mv) : Pkt := match hapK m with
  | 1 => delP n (hapAt n m)
  | _ => .nil
def hapE (n : NetM) (m : Mv) : Int := match hapK m with
  | 0 => sendE n (hapQ m)
  | 1 => askE n (hapAt n m)
  | 2 => askE n (hapAt n m)
  | 3 => repE n (hapAt n m)
  | 4 => cutE n (hapA m) (hapB m)
  | _ => cutE n (hapA m) (hapB m)
end Go.Proofs.Ytmlhpchabnajkaa
