/- links and packets in memory -/
import Derived.Test.YtmlhpchabnajkaaNetPlain
import Derived.Test.YtmlhpchabnajkaaChecked
import Derived.Test.YtmlhpchabnajkaaEq
namespace Go.Proofs.Ytmlhpchabnajkaa
set_option linter.unusedSimpArgs false
set_option linter.unusedVariables false
open Go.RowKit
def RPk : RepT Pkt := fun F w p cs => ∃ a cap, cs = [.int .i64 p.src, .int .i64 p.dst, .slice a p.data.length cap] ∧ i64R p.src ∧ i64R p.dst ∧ p.data.length ≤ cap ∧ p.data.length ≤ 140737488351232 ∧ RRow 1 RU8 F w p.data a
theorem good_pk : Good 3 RPk := by
  refine ⟨fun hF hk _ _ h => ?_, fun h => ?_, fun h => ?_⟩
  · obtain ⟨a, cap, e, h1, h2, h3, h4, h5⟩ := h
    exact ⟨a, cap, e, h1, h2, h3, h4, h5.keep good_u8 hF hk⟩
  · obtain ⟨a, cap, e, _⟩ := h; rw [e]; rfl
  · obtain ⟨a, cap, e, _⟩ := h; rw [e]; simp [Value.oneCell']
def RPr : RepT (Int × Int) := fun _ _ p cs => cs = [.int .i64 p.1, .int .i64 p.2] ∧ i64R p.1 ∧ i64R p.2
theorem good_pr : Good 2 RPr := ⟨fun _ _ _ _ h => h, fun h => by rw [h.1]; rfl, fun h => by rw [h.1]; simp [Value.oneCell']⟩
def RNet : RepT NetM := fun F w n cs => ∃ qa qc aa ac, cs = [.slice qa n.queue.length qc, .slice aa n.apart.length ac] ∧ n.queue.length ≤ qc ∧ n.queue.length ≤ 140737488351232 ∧ RRow 3 RPk F w n.queue qa ∧ n.apart.length ≤ ac ∧ n.apart.length ≤ 140737488351232 ∧ RRow 2 RPr F w n.apart aa
theorem good_net : Good 2 RNet := by
  refine ⟨fun hF hk _ _ h => ?_, fun h => ?_, fun h => ?_⟩
  · obtain ⟨qa, qc, aa, ac, e, h1, h2, h3, h4, h5, h6⟩ := h
    exact ⟨qa, qc, aa, ac, e, h1, h2, h3.keep good_pk hF hk, h4, h5, h6.keep good_pr hF hk⟩
  · obtain ⟨qa, qc, aa, ac, e, _⟩ := h; rw [e]; rfl
  · obtain ⟨qa, qc, aa, ac, e, _⟩ := h; rw [e]; simp [Value.oneCell']
theorem RPk.at {w : World} {l : List Pkt} {a : Option Addr} (h : Row 3 RPk w l a) (i : Nat) (hi : i < l.length) : ∃ b off da dc, a = some ⟨b, off, none⟩ ∧ w.cell? ⟨b, off + i * 3, none⟩ = some (.int .i64 l[i].src) ∧ w.cell? ⟨b, off + i * 3 + 1, none⟩ = some (.int .i64 l[i].dst) ∧
    w.cell? ⟨b, off + i * 3 + 2, none⟩ = some (.slice da l[i].data.length dc) ∧ RPk (Now w) w l[i] [.int .i64 l[i].src, .int .i64 l[i].dst, .slice da l[i].data.length dc] := by
  obtain ⟨b, off, cs, rfl, _, hr, hc⟩ := h i hi
  have hr' := hr
  obtain ⟨da, dc, rfl, _⟩ := hr'
  exact ⟨b, off, da, dc, rfl, hc 0 _ rfl, hc 1 _ rfl, hc 2 _ rfl, hr⟩
theorem RPr.at {w : World} {l : List (Int × Int)} {a : Option Addr} (h : Row 2 RPr w l a) (i : Nat) (hi : i < l.length) : ∃ b off, a = some ⟨b, off, none⟩ ∧ w.cell? ⟨b, off + i * 2, none⟩ = some (.int .i64 l[i].1) ∧ w.cell? ⟨b, off + i * 2 + 1, none⟩ = some (.int .i64 l[i].2) ∧ i64R l[i].1 ∧ i64R l[i].2 := by
  obtain ⟨b, off, cs, rfl, _, hr, hc⟩ := h i hi
  obtain ⟨rfl, h1, h2⟩ := hr
  exact ⟨b, off, rfl, hc 0 _ rfl, hc 1 _ rfl, h1, h2⟩
theorem sizeInt (w : World) : (sizeOf 3).run Try.prog w = .ok 1 w := by kernel_rfl
theorem eql_pair (a b a' b' : Int) (w : World) : (binOp .eql 55 (.agg #[.int .i64 a, .int .i64 b]) (.agg #[.int .i64 a', .int .i64 b'])).run Try.prog w = .ok (.bool (a == a' && b == b')) w := run_eql_pair w _ _ Try.underlying55 Try.underlying3 sizeInt _ _ _ _
theorem neq_pair (a b a' b' : Int) (w : World) : (binOp .neq 55 (.agg #[.int .i64 a, .int .i64 b]) (.agg #[.int .i64 a', .int .i64 b'])).run Try.prog w = .ok (.bool (!(a == a' && b == b'))) w := run_neq_pair w _ _ Try.underlying55 Try.underlying3 sizeInt _ _ _ _
theorem eql_link (a b a' b' : Int) (w : World) : (binOp .eql 58 (.agg #[.int .i64 a, .int .i64 b]) (.agg #[.int .i64 a', .int .i64 b'])).run Try.prog w = .ok (.bool (a == a' && b == b')) w := run_eql_pair w _ _ Try.underlying58 Try.underlying3 sizeInt _ _ _ _
theorem neq_link (a b a' b' : Int) (w : World) : (binOp .neq 58 (.agg #[.int .i64 a, .int .i64 b]) (.agg #[.int .i64 a', .int .i64 b'])).run Try.prog w = .ok (.bool (!(a == a' && b == b'))) w := run_neq_pair w _ _ Try.underlying58 Try.underlying3 sizeInt _ _ _ _
end Go.Proofs.Ytmlhpchabnajkaa
