/- nets and packets as results, over blocks D -/
import Derived.Test.YtmlhpchabnajkaaNet21
import Derived.Test.YtmlhpchabnajkaaStep
namespace Go.Proofs.Ytmlhpchabnajkaa
set_option linter.unusedSimpArgs false
set_option linter.unusedVariables false
open Go.RowKit
def IntD (n : Int) : PropD := fun _ v _ => v = .int .i64 n
def AggD (m : NetM) : PropD := fun D v W => ∃ qb qd ab ad, v = .agg #[.slice qb m.queue.length qd, .slice ab m.apart.length ad] ∧ RNet D W m [.slice qb m.queue.length qd, .slice ab m.apart.length ad]
def AggP (p : Pkt) : PropD := fun D v W => ∃ da dc, v = .agg #[.int .i64 p.src, .int .i64 p.dst, .slice da p.data.length dc] ∧ RPk D W p [.int .i64 p.src, .int .i64 p.dst, .slice da p.data.length dc]
def TupD (m : NetM) (er : Int) : PropD := fun D v W => ∃ qb qd ab ad, v = .tuple #[.agg #[.slice qb m.queue.length qd, .slice ab m.apart.length ad], .int .i64 er] ∧ RNet D W m [.slice qb m.queue.length qd, .slice ab m.apart.length ad]
def TupNP (m : NetM) (p : Pkt) (er : Int) : PropD := fun D v W => ∃ qb qd ab ad da dc, v = .tuple #[.agg #[.slice qb m.queue.length qd, .slice ab m.apart.length ad], .agg #[.int .i64 p.src, .int .i64 p.dst, .slice da p.data.length dc], .int .i64 er] ∧ RNet D W m [.slice qb m.queue.length qd, .slice ab m.apart.length ad] ∧ RPk D W p [.int .i64 p.src, .int .i64 p.dst, .slice da p.data.length dc]
theorem intD_stable (n : Int) : StableD (IntD n) := fun _ _ h => h
theorem aggD_stable (m : NetM) : StableD (AggD m) := fun hD h ⟨qb, qd, ab, ad, e, hr⟩ => ⟨qb, qd, ab, ad, e, good_net.keep (fun _ h => h) (fun b hb => h.block b (hD b hb)) hr⟩
theorem aggP_stable (p : Pkt) : StableD (AggP p) := fun hD h ⟨da, dc, e, hr⟩ => ⟨da, dc, e, good_pk.keep (fun _ h => h) (fun b hb => h.block b (hD b hb)) hr⟩
theorem tupD_stable (m : NetM) (er : Int) : StableD (TupD m er) := fun hD h ⟨qb, qd, ab, ad, e, hr⟩ => ⟨qb, qd, ab, ad, e, good_net.keep (fun _ h => h) (fun b hb => h.block b (hD b hb)) hr⟩
theorem tupNP_stable (m : NetM) (p : Pkt) (er : Int) : StableD (TupNP m p er) := fun hD h ⟨qb, qd, ab, ad, da, dc, e, hr, hp⟩ => ⟨qb, qd, ab, ad, da, dc, e, good_net.keep (fun _ h => h) (fun b hb => h.block b (hD b hb)) hr, good_pk.keep (fun _ h => h) (fun b hb => h.block b (hD b hb)) hp⟩
end Go.Proofs.Ytmlhpchabnajkaa
