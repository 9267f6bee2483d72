import Derived.Test.YtofcphfgpnobnaaRow3
import Derived.Deep.AppendLies
import Derived.Deep.RegionLaw
namespace Go.Proofs.Ytofcphfgpnobnaa
set_option linter.unusedVariables false
open Go Go.Proofs Go.RowKit
attribute [local go_sem ↓] Go.wp_at_zero Go.wp_at_succ

theorem info_ord : (Try.prog.info? 28).map (fun i => (i.zero, i.size, i.bytes)) = some (some (ov Ord.zero), 5, 40) := by kernel_rfl

theorem assert_ord (v : Value) (w : World) : (Instr.typeAssert (.iface 28 v) 20 28 true).run Try.prog w = .ok (.tuple #[v, .bool true]) w := by kernel_rfl

theorem news_drew (w : World) (c : Array Value) (T : TypeId) {n : Nat} (hn : n = w.heap.size) : ∀ (j : Nat) u, c.toList[j]? = some u → (w.alloc (.cells c T)).drew.cell? ((Addr.mk n 0 none).add j) = some u := by
  subst hn
  exact World.news_of_block (cs := c) (t := T) (fr := (0, 0)) (heap_new w _)
theorem Blk.grown {w w' : World} {b : Nat} {T : TypeId} {c : List Value} {row : Option Nat} (h : Blk w b T c) (g : w.grownBy w' row) (hn : row ≠ some b) : Blk w' b T c := h.same (g.block b h.lt (Ne.symm hn))
theorem Row.owns {w : World} {b s : Nat} {up : Bool} {l : List Ord} (h : Row w b s up l) : ∃ v, Blk w b 76 [v, .bool up] ∧ w.ownsRow 0 28 5 v l.length (ocs l) ∧ (v.ownBlock = none ∨ v.ownBlock = some s) ∧ v.ownBlock ≠ some b := by
  rcases h.mem with ⟨h1, h2⟩ | ⟨cap, sp, h0, h1, h2, h3, h4⟩
  · subst h2
    exact ⟨_, h1, ⟨rfl, .inl ⟨rfl, rfl⟩⟩, .inl rfl, by simp [Value.ownBlock]⟩
  · refine ⟨_, h1, ⟨ocs_len l, .inr ⟨s, cap, (ocs l ++ sp).toArray, rfl, Nat.zero_le _, h2, by omega, h4, by simp [ocs_len]; omega, ?_⟩⟩, .inr rfl, by simpa [Value.ownBlock] using h0⟩
    simp [ocs_len]
theorem Row.of_owns {w : World} {b g cap : Nat} {up : Bool} {l : List Ord} (hb : Blk w b 76 [.slice (some ⟨g, 0, none⟩) l.length cap, .bool up]) (hg : g ≠ b) (hok : ∀ o ∈ l, o.Ok)
    (ho : w.ownsRow 0 28 5 (.slice (some ⟨g, 0, none⟩) l.length cap) l.length (ocs l)) : Row w b g up l := by
  rcases ho.2 with ⟨h1, _⟩ | ⟨g', cap', cur, hv, _, hh, hn, hc, hs, ht⟩
  · cases h1
  · injection hv with e1 e2 e3
    injection e1 with e1
    injection e1 with e1
    subst e1; subst e3
    have hz : g < w.heap.size := (Array.getElem?_eq_some_iff.1 hh).1
    refine ⟨hok, hz, .inr ⟨cap, cur.toList.drop (l.length * 5), hg, hb, ?_, ?_, hc⟩⟩
    · unfold Blk; rw [hh, ← ht, List.take_append_drop]
    · simp [hs]; omega

theorem Row.pushed {w1 : World} {b gg cap : Nat} {up : Bool} {l : List Ord} {v : Value} {o : Ord} (hown1 : w1.ownsRow 0 28 5 (.slice (some ⟨gg, 0, none⟩) (l.length + 1) cap) (l.length + 1) (ocs l ++ oc o))
    (hb1 : Blk w1 b 76 [v, .bool up]) (hgb : gg ≠ b) (hok : ∀ x ∈ l, x.Ok) (ho : o.Ok) : Row (w1.setCell ⟨b, 0, none⟩ (.slice (some ⟨gg, 0, none⟩) (l.length + 1) cap)) b gg up (l ++ [o]) := by
  have e : (l ++ [o]).length = l.length + 1 := by simp
  have hb2 : Blk (w1.setCell ⟨b, 0, none⟩ (.slice (some ⟨gg, 0, none⟩) (l.length + 1) cap)) b 76 [.slice (some ⟨gg, 0, none⟩) (l ++ [o]).length cap, .bool up] := by rw [e]; exact hb1.set 0 _
  refine Row.of_owns hb2 hgb (fun x hx => by rcases List.mem_append.1 hx with h | h; exact hok _ h; simp at h; exact h ▸ ho) ?_
  rw [e, ocs_snoc]
  refine ⟨hown1.1, ?_⟩
  rcases hown1.2 with h1 | ⟨g, c, cur, hv, hg, hh, hr⟩
  · exact .inl h1
  · refine .inr ⟨g, c, cur, hv, hg, ?_, hr⟩
    injection hv with e1 e2 e3
    injection e1 with e1
    injection e1 with e1
    rw [Below.heap_setCell _ _ _ _ (by show g ≠ b; omega)]
    exact hh

set_option maxRecDepth 100000 in
set_option maxHeartbeats 4000000 in
/-- (*row).Push. -/
theorem rowPush {w : World} {b s : Nat} {up : Bool} {l : List Ord} (h : Row w b s up l) {o : Ord} (ho : o.Ok) (hm : l.length < 1000000000000) :
    Calls Try.prog 89 #[.pointer (some ⟨b, 0, none⟩), .iface 28 (ov o)] w fun e w' => e = .returned (.tuple #[]) ∧ ∃ s', Row w' b s' up (l ++ [o]) ∧ Chg [b, s] w w' ∧ (s' = s ∨ w.heap.size ≤ s') := by
  obtain ⟨i0, hi, hz0, hz1, hz2⟩ := info_parts info_ord
  obtain ⟨v, hb, hown, hv, hvb⟩ := h.owns
  have h0 := hb.at (i := 0) rfl
  have hlt := hb.lt
  have hsl := h.lt
  have f : w.frozen? ⟨b, 0, none⟩ = false := hb.free 0
  have has := assert_ord
  go_enter Try.func89, Try.ntmps89
  go_wp2_with fail
  obtain ⟨oi, oc', ob, op, oq⟩ := o
  dsimp only
  go_region_law
    ((refine step_append_lies _ (by rfl) _ _ _ (by rfl) 0 28 i0 _ 5 40 Try.underlying35 hi hz0 hz1 hz2 rfl (by omega) v l.length (ocs l) (by rfl) (((hown.alloc _).alloc _).drew)
        ⟨w.heap.size + 1, 0, none⟩ 1 1 [.int .i64 oi, .int .i64 oc', .bool ob, .int .u64 op, .int .u64 oq] (by rfl) (by rfl) (news_drew (w.alloc _) _ _ (by simp)) (by simp [Value.oneCell'])
        (by omega) (by unfold maxLen; omega) (by omega) (by simp) (w.heap.size + 1 + 1) (by simp) ?_; intro gg cap w1 hown1 hgrow hat hglt; have hb1 := (((hb.alloc _).alloc _).drew).grown hgrow hvb; have hc1 := hb1.at (i := 0) rfl; have hf1 := hb1.free 0))
  all_goals
    go_end0
    have hgb : gg ≠ b := by
      rintro rfl
      rcases hat with h1 | h1
      · exact hvb h1
      · omega
    exact ⟨rfl, gg, Row.pushed (o := ⟨oi, oc', ob, op, oq⟩) hown1 hb1 hgb h.ok ho, (((((Chg.refl [b, s] w).alloc _).alloc _).drew).grown hgrow (fun k hk => by rcases hv with h1 | h1 <;> rw [h1] at hk <;> simp at hk; subst hk; simp)).setCell _ _ (by simp),
      by rcases hat with h1 | h1; rcases hv with h2 | h2; rw [h2] at h1; cases h1; rw [h2] at h1; injection h1 with h1; exact .inl h1.symm; exact .inr (by omega)⟩
end Go.Proofs.Ytofcphfgpnobnaa
