import Derived.Test.YtofcphfgpnobnaaBk7
import Derived.Test.YtofcphfgpnobnaaShell
import Derived.BigQuiet
import Derived.Deep.QuietTactic
namespace Go.Proofs.Ytofcphfgpnobnaa
set_option linter.unusedVariables false
open Go Go.Proofs Go.RowKit Go.Maps
attribute [local go_sem ↓] Go.wp_at_zero Go.wp_at_succ

/-- A step's seven cells, in this and later worlds. -/
structure Step9 (w : World) (b o : Nat) (kd id cl : Int) (by' rs : Bool) (p q : Int) : Prop where
  c : ∀ wr, Below w.heap.size w wr → wr.cell? ⟨b, o, none⟩ = some (.int .i64 kd) ∧ wr.cell? ⟨b, o + 1, none⟩ = some (.int .i64 id) ∧ wr.cell? ⟨b, o + 2, none⟩ = some (.int .i64 cl) ∧
    wr.cell? ⟨b, o + 3, none⟩ = some (.bool by') ∧ wr.cell? ⟨b, o + 4, none⟩ = some (.bool rs) ∧ wr.cell? ⟨b, o + 5, none⟩ = some (.int .u64 p) ∧ wr.cell? ⟨b, o + 6, none⟩ = some (.int .u64 q)
theorem SRec.step9 {w : World} {a : Option Addr} {len cap : Nat} (h : SRec [some .i64, some .i64, some .i64, none, none, some .u64, some .u64] w a len cap) {i : Nat} (hi : i < len) :
    ∃ b off kd id cl by' rs p q, a = some ⟨b, off, none⟩ ∧ I kd ∧ I id ∧ I cl ∧ U p ∧ U q ∧ Step9 w b (off + i * 7) kd id cl by' rs p q := by
  obtain ⟨b, off, ha, hc⟩ := h.at hi
  obtain ⟨v0, c0, f0⟩ := hc 0 _ rfl
  obtain ⟨v1, c1, f1⟩ := hc 1 _ rfl
  obtain ⟨v2, c2, f2⟩ := hc 2 _ rfl
  obtain ⟨v3, c3, f3⟩ := hc 3 _ rfl
  obtain ⟨v4, c4, f4⟩ := hc 4 _ rfl
  obtain ⟨v5, c5, f5⟩ := hc 5 _ rfl
  obtain ⟨v6, c6, f6⟩ := hc 6 _ rfl
  obtain ⟨x0, rfl, h0⟩ := fits_i64 f0
  obtain ⟨x1, rfl, h1⟩ := fits_i64 f1
  obtain ⟨x2, rfl, h2⟩ := fits_i64 f2
  obtain ⟨x3, rfl⟩ := f3
  obtain ⟨x4, rfl⟩ := f4
  obtain ⟨x5, rfl, h5⟩ := fits_u64 f5
  obtain ⟨x6, rfl, h6⟩ := fits_u64 f6
  exact ⟨b, off, x0, x1, x2, x3, x4, x5, x6, ha, h0, h1, h2, h5, h6, ⟨fun wr hb => ⟨below_cell hb c0, below_cell hb c1, below_cell hb c2, below_cell hb c3, below_cell hb c4, below_cell hb c5, below_cell hb c6⟩⟩⟩

set_option maxRecDepth 100000 in
/-- m[x], of a map in memory: its run. -/
theorem MapU.look {w : World} {b n : Nat} {f : Int → Int} (h : MapU w b n f) {key : Int} (hk : I key) : (Instr.lookup 72 (.map (some b)) (.int .i64 key) false).run Try.prog w = .ok (.int .u64 (f key)) w := by
  obtain ⟨D, h1, h2, h3⟩ := h
  obtain ⟨c, hrun, hc, _⟩ := h2.lookup_int keyInt Try.underlying72 Try.underlying26 (zeroU w) (keyOf_int_mk Try.underlying3 (I_lit hk))
  rw [(h3 key (I_lit hk)).1] at hc
  injection hc with hc
  injection hc with _ hc
  rw [hrun, ← hc]
theorem BkS.srt {w wr : World} {F : List Nat} {k : Nat} {L M : List Ord} (h : BkS w wr F k L M) : Srt false L ∧ Srt true M := by
  obtain ⟨b1, s1, b2, s2, _, _, h1, h2, _⟩ := h.bk.all
  exact ⟨h1.srt, h2.srt⟩
theorem BkS.ok {w wr : World} {F : List Nat} {k : Nat} {L M : List Ord} (h : BkS w wr F k L M) : ∀ x ∈ L ++ M, x.Ok := by
  obtain ⟨b1, s1, b2, s2, _, _, h1, h2, _⟩ := h.bk.all
  intro x hx
  rcases List.mem_append.1 hx with g | g
  · exact h1.ok x g
  · exact h2.ok x g
end Go.Proofs.Ytofcphfgpnobnaa
