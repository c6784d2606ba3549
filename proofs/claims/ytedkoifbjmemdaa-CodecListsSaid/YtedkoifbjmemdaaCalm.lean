/- a region that draws its order, whose callees may lay blocks: walked once -/
import Derived.Test.YtedkoifbjmemdaaSane
import Derived.Deep.QuietTactic
namespace Go.Proofs.Ytedkoifbjmemdaa
open Go.RowKit
structure Later (w : World) where
  W : World
  by_ : Below w.heap.size w W
instance laterInh (w : World) : Inhabited (Later w) := ⟨⟨w, Below.refl _ _⟩⟩
theorem wp_region_later {P : Program} {id : Nat} {Q : Exit → Act → World → Prop} {a : Act} {w : World} {l : List Oper} (hm : P.follows .mixedOrders = true) (hB : Region.lexB .any l.toArray = true)
    (h : wpQuiet P l.toArray (fun w' => ∃ p : Later w, w' = p.W) (fun a' => ∀ w', (∃ p : Later w, w' = p.W) → Q .normal a' w') l a) : (Code.region id l.toArray true).wp P Q a w :=
  wp_region_quiet (C := fun w' => ∃ p : Later w, w' = p.W) hm hB ⟨⟨w.drew, (Below.refl _ _).drew⟩, rfl⟩ (by simpa using h)
theorem later_of {P : Program} {f : FuncId} {args : Array Value} {w : World} {v : Value} (p : Later w) (h : Calls P f args p.W (Gives v p.W)) : Calls P f args p.W fun e w'' => e = .returned v ∧ ∃ q : Later w, w'' = q.W :=
  h.mono fun _ _ ⟨he, hb⟩ => ⟨he, ⟨_, p.by_.trans (hb.mono p.by_.size)⟩, rfl⟩
theorem later_ofI {P : Program} {f : FuncId} {args : Array Value} {w : World} {n : Int} (p : Later w) (h : Calls P f args p.W (GivesI n p.W)) : Calls P f args p.W fun e w'' => e = .returned (.int .i64 n) ∧ ∃ q : Later w, w'' = q.W :=
  h.mono fun _ _ ⟨he, hb⟩ => ⟨he, ⟨_, p.by_.trans (hb.mono p.by_.size)⟩, rfl⟩
theorem few_small {v : V} {W : World} {c : Value} (hr : RepV W v c) (h : v.cnt 20 ≤ 200) : v.depth ≤ 1000000 ∧ v.enc.length ≤ 1000000 := by
  obtain ⟨_, h1, h2⟩ := V.few v 20 hr.texts h
  omega
theorem Later.cell {w : World} (p : Later w) {b o : Nat} {v : Value} (h : w.cell? ⟨b, o, none⟩ = some v) : p.W.cell? ⟨b, o, none⟩ = some v := below_cell p.by_ h
theorem repL_two {W : World} {g : Nat} {v v' : V} {c0 c1 c2 c3 d0 d1 d2 d3 : Value} (hv : RepV W v (.agg #[c0, c1, c2, c3])) (hv' : RepV W v' (.agg #[d0, d1, d2, d3])) (h : W.heap[g]? = some (.cells #[c0, c1, c2, c3, d0, d1, d2, d3] 24)) :
    RepL W [v, v'] (some ⟨g, 0, none⟩) := by
  have hc : ∀ o u, (#[c0, c1, c2, c3, d0, d1, d2, d3] : Array Value)[o]? = some u → W.cell? ⟨g, o, none⟩ = some u := fun o u hu => by
    simp [World.cell?, h, hu]
  simp only [RepL]
  exact ⟨g, 0, c0, c1, c2, c3, rfl, hc 0 _ rfl, hc 1 _ rfl, hc 2 _ rfl, hc 3 _ rfl, hv, g, 4, d0, d1, d2, d3, rfl, hc 4 _ rfl, hc 5 _ rfl, hc 6 _ rfl, hc 7 _ rfl, hv', trivial⟩
theorem repL_one {W : World} {g : Nat} {v : V} {c0 c1 c2 c3 : Value} (hv : RepV W v (.agg #[c0, c1, c2, c3])) (h : W.heap[g]? = some (.cells #[c0, c1, c2, c3] 24)) :
    RepL W [v] (some ⟨g, 0, none⟩) := by
  have hc : ∀ o u, (#[c0, c1, c2, c3] : Array Value)[o]? = some u → W.cell? ⟨g, o, none⟩ = some u := fun o u hu => by
    simp [World.cell?, h, hu]
  simp only [RepL]
  exact ⟨g, 0, c0, c1, c2, c3, rfl, hc 0 _ rfl, hc 1 _ rfl, hc 2 _ rfl, hc 3 _ rfl, hv, trivial⟩
end Go.Proofs.Ytedkoifbjmemdaa
