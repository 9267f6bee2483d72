
import Derived.Test.YteabcpmpcbjicaaGreatPlawL
import Derived.Test.YteabcpmpcbjicaaGreatLsS
import Derived.Test.YteabcpmpcbjicaaGreatEntw
import Derived.Test.YteabcpmpcbjicaaGreatAwake12
import Derived.Deep.CutBlock
namespace Go.Proofs.YteabcpmpcbjicaaGreat
set_option linter.unusedVariables false
set_option linter.unusedSimpArgs false
set_option maxRecDepth 100000
open Go Go.Proofs Go.RowKit
attribute [local go_sem ↓] Go.wp_at_zero Go.wp_at_succ
theorem LedX.partz {w wr : World} {l n : Nat} {F : List Nat} {S : LS} {t : Nat} (h : LedX w wr l n F S t) : ∃ ab fb x ns cap, n ≤ 1000 ∧ S.k ≤ t ∧ S.L.length + S.M.length ≤ S.k ∧ (∀ o ∈ S.L ++ S.M, OIn o) ∧ U S.got ∧ U S.g0 ∧ U S.g1 ∧ S.nx.length = n ∧ (∀ z ∈ S.nx, U z) ∧ AOk n S.xs ∧
    Blk wr l 141 [.pointer (some ⟨ab, 0, none⟩), .pointer (some ⟨fb, 0, none⟩), .pointer (some ⟨x, 0, none⟩), .slice (some ⟨ns, 0, none⟩) n cap, .int .u64 S.g0, .int .u64 S.g1, .int .u64 S.b0, .int .u64 S.b1] ∧
    Beg wr ns 27 (S.nx.map (Value.int .u64)) ∧ ∃ s kb F0, Exc w wr x ab s kb n F0 S.xs S.L S.M S.k := by
  obtain ⟨ab, s, fb, mb, x, kb, ns, F0, m, h, e0, e1, e2⟩ := h
  obtain ⟨cap, c1, c2, hd⟩ := h.hd
  exact ⟨ab, fb, x, ns, cap, h.ex.a.ok.most, e2, h.ex.ok.len, fun o ho => (h.ex.ok.oin o ho).1, h.fe.ug, h.ug.1, h.ug.2.1, h.nl, h.nu, h.ex.a.ok, hd, h.nx, s, kb, F0, h.ex⟩

theorem gsum_four {k : Int} (hk : k = 0 ∨ k = 1) {xs : List Int} {L M : List Ord} {kk : Nat} {G : Int} (hG : col4 k xs + lks k (L ++ M) = G) (ok : EOk 4 L M kk) : psum k xs L M 4 = G := by
  have hA : aAsset k = true := by rcases hk with rfl | rfl <;> rfl
  have hL : lkd ((0 : Nat) : Int) k L + lkd ((1 : Nat) : Int) k L + lkd ((2 : Nat) : Int) k L + lkd ((3 : Nat) : Int) k L = lks k L := lkd_four fun o ho => (ok.oin o (by simp [ho])).2.2
  have hM : lkd ((0 : Nat) : Int) k M + lkd ((1 : Nat) : Int) k M + lkd ((2 : Nat) : Int) k M + lkd ((3 : Nat) : Int) k M = lks k M := lkd_four fun o ho => (ok.oin o (by simp [ho])).2.2
  have f0 := aFree_get (xs := xs) (j := 0) (by omega) hA
  have f1 := aFree_get (xs := xs) (j := 1) (by omega) hA
  have f2 := aFree_get (xs := xs) (j := 2) (by omega) hA
  have f3 := aFree_get (xs := xs) (j := 3) (by omega) hA
  have hs : col4 k xs + (lks k L + lks k M) = G := by
    rw [← lks_append]; exact hG
  have hs' : aGet xs ((0 : Nat) : Int) k + aGet xs ((1 : Nat) : Int) k + aGet xs ((2 : Nat) : Int) k + aGet xs ((3 : Nat) : Int) k + (lks k L + lks k M) = G := hs
  simp only [psum]
  rw [f0, f1, f2, f3]
  omega
theorem gsum_in {k : Int} (hk : k = 0 ∨ k = 1) {xs : List Int} {L M : List Ord} {kk : Nat} {G : Int} (hA4 : AOk 4 xs) (hG : col4 k xs + lks k (L ++ M) = G) (ok : EOk 4 L M kk) : ∀ j : Nat, j < 4 → 0 ≤ psum k xs L M j ∧ 0 ≤ aFree 4 xs (j : Int) k ∧ 0 ≤ lkd (j : Int) k L + lkd (j : Int) k M ∧ psum k xs L M j + aFree 4 xs (j : Int) k + (lkd (j : Int) k L + lkd (j : Int) k M) ≤ G := by
  have h4 := gsum_four hk hG ok
  have hA : aAsset k = true := by rcases hk with rfl | rfl <;> rfl
  have fr : ∀ j : Nat, j < 4 → 0 ≤ aFree 4 xs (j : Int) k := fun j hj => by rw [aFree_get hj hA]; exact (hA4.get _ _).1
  have lk : ∀ j : Nat, 0 ≤ lkd (j : Int) k L + lkd (j : Int) k M := fun j => by
    have h1 := (lkd_in (c := (j : Int)) (a := k) (Q := L) fun o ho => (ok.oin o (by simp [ho])).1).1
    have h2 := (lkd_in (c := (j : Int)) (a := k) (Q := M) fun o ho => (ok.oin o (by simp [ho])).1).1
    omega
  have a0 := fr 0 (by omega)
  have a1 := fr 1 (by omega)
  have a2 := fr 2 (by omega)
  have a3 := fr 3 (by omega)
  have b0 := lk 0
  have b1 := lk 1
  have b2 := lk 2
  have b3 := lk 3
  simp only [psum] at h4
  intro j hj
  rcases (by omega : j = 0 ∨ j = 1 ∨ j = 2 ∨ j = 3) with rfl | rfl | rfl | rfl <;> simp only [psum] <;> refine ⟨?_, ?_, ?_, ?_⟩ <;> omega

/-- The sums, what stands and what is lawful, of a ledger in memory. -/
structure Su (S : LS) : Prop where
  k : LSk S 0
  f : S.f = Zf
theorem Su.start : Su (LS1 4) := by
  have hL : LS1 4 = ⟨[1000, 1000, 1000, 1000, 1000, 1000, 1000, 1000], fun _ => 0, 0, [], [], 0, [0, 0, 0, 0], 4000, 4000, 0, 0⟩ := by kernel_rfl
  rw [hL]
  refine ⟨⟨by omega, ⟨⟨rfl, by omega, ?_⟩, by rfl, by rfl, by show (4000 : Int) - 0 ≤ _; omega, by show (4000 : Int) - 0 - 0 - 0 ≤ _; omega⟩, by show (0 : Int) ≤ 0; omega, by show (0 : Int) ≤ 0 ∧ (0 : Int) ≤ 4000 ∧ (4000 : Int) ≤ _; omega, by show (0 : Int) ≤ 0 ∧ (0 : Int) ≤ 4000 ∧ (4000 : Int) ≤ _; omega, EOk.start 4, fun b hb => by cases hb⟩, rfl⟩
  intro x hx
  simp at hx
  subst hx
  exact ⟨by decide, by decide⟩
theorem LedX.srt {w wr : World} {l n : Nat} {F : List Nat} {S : LS} {t : Nat} (h : LedX w wr l n F S t) : Srt false S.L ∧ Srt true S.M := by
  obtain ⟨ab, s, fb, mb, x, kb, ns, F0, m, h, e0, e1, e2⟩ := h
  obtain ⟨b1, s1, b2, s2, _, _, h1, h2, _⟩ := h.ex.b.bk.all
  exact ⟨h1.srt, h2.srt⟩
theorem Su.step {w wr : World} {l : Nat} {F : List Nat} {S S' : LS} {t : Nat} {e : Ent} {r : Rcp} (h : LedX w wr l 4 F S t) (u : Su S) (he : e.Ok) (hr : lDo 4 S e = (S', r)) :
    Su S' ∧ 0 ≤ r.paid ∧ r.paid ≤ e.fee ∧ (r.code ≠ 0 → aFree 4 S'.xs e.client 1 = aFree 4 S.xs e.client 1 - r.paid ∧ S'.L = S.L ∧ S'.M = S.M ∧ r.T = []) := by
  obtain ⟨h1, h2, h3, h4, h5⟩ := do4 u.k u.f h.srt.1 h.srt.2 he hr
  exact ⟨⟨h1, h2⟩, h3, h4, h5⟩
theorem Su.given {S : LS} (u : Su S) : lGivenV S 0 = S.g0 - S.b0 ∧ lGivenV S 1 = S.g1 - S.b1 := by
  have b0 := u.k.b0
  have b1 := u.k.b1
  unfold lGivenV
  simp only [if_true, show aAsset 0 = true from rfl, show aAsset 1 = true from rfl, show ((1 : Int) = 0) = False by simp, if_false]
  unfold uW
  omega
theorem lxLocked {w wr : World} {l n : Nat} {F : List Nat} {S : LS} {t : Nat} (h : LedX w wr l n F S t) (ht : t ≤ 100000) (c a r : Int) (hr : lkd c a S.L + lkd c a S.M = r) : Calls Tryz.prog 38 #[.pointer (some ⟨l, 0, none⟩), .int .i64 c, .int .i64 a] wr fun y w' => y = .returned (.int .u64 r) ∧ Chg [] wr w' := by
  obtain ⟨ab, s, fb, mb, x, kb, ns, F0, m, h, e0, e1, e2⟩ := h
  obtain ⟨cap, _, _, hd⟩ := h.hd
  have d2 := hd.at (i := 2) rfl
  have HR := Lib.hid hr
  have hk : S.k ≤ 1000000 := by omega
  clear hr e0
  go_enter Tryz.func38, Tryz.ntmps38
  go_wp2_with fail
  refine (locked_any h.ex hk c a r HR.out).mono ?_
  rintro e w2 ⟨rfl, cc⟩
  go_wp2_with fail
  go_ret
  exact ⟨rfl, cc⟩
/-- An entry of a row that was given. -/
theorem SRec.stepE {w : World} {a : Option Addr} {len cap : Nat} (h : SRec [some .i64, some .u64, some .u64, none, some .i64, some .i64, some .i64, none, some .u64, some .u64, some .i64] w a len cap) {i : Nat} (hi : i < len) :
    ∃ b off, ∃ e : Ent, a = some ⟨b, off, none⟩ ∧ e.Ok ∧ ∀ wr, Below w.heap.size w wr → wr.cell? ⟨b, off + i * 11, none⟩ = some (.int .i64 e.client) ∧ wr.cell? ⟨b, off + i * 11 + 1, none⟩ = some (.int .u64 e.nonce) ∧ wr.cell? ⟨b, off + i * 11 + 2, none⟩ = some (.int .u64 e.fee) ∧ wr.cell? ⟨b, off + i * 11 + 3, none⟩ = some (.bool e.good) ∧ wr.cell? ⟨b, off + i * 11 + 4, none⟩ = some (.int .i64 e.tx.kind) ∧ wr.cell? ⟨b, off + i * 11 + 5, none⟩ = some (.int .i64 e.tx.asset) ∧ wr.cell? ⟨b, off + i * 11 + 6, none⟩ = some (.int .i64 e.tx.dst) ∧ wr.cell? ⟨b, off + i * 11 + 7, none⟩ = some (.bool e.tx.buy) ∧ wr.cell? ⟨b, off + i * 11 + 8, none⟩ = some (.int .u64 e.tx.price) ∧ wr.cell? ⟨b, off + i * 11 + 9, none⟩ = some (.int .u64 e.tx.qty) ∧ wr.cell? ⟨b, off + i * 11 + 10, none⟩ = some (.int .i64 e.tx.id) := by
  obtain ⟨b, off, ha, hc⟩ := h.at hi
  obtain ⟨v0, c0, f0⟩ := hc 0 _ rfl
  obtain ⟨v1, c1, f1⟩ := hc 1 _ rfl
  obtain ⟨v2, c2, f2⟩ := hc 2 _ rfl
  obtain ⟨v3, c3, f3⟩ := hc 3 _ rfl
  obtain ⟨v4, c4, f4⟩ := hc 4 _ rfl
  obtain ⟨v5, c5, f5⟩ := hc 5 _ rfl
  obtain ⟨v6, c6, f6⟩ := hc 6 _ rfl
  obtain ⟨v7, c7, f7⟩ := hc 7 _ rfl
  obtain ⟨v8, c8, f8⟩ := hc 8 _ rfl
  obtain ⟨v9, c9, f9⟩ := hc 9 _ rfl
  obtain ⟨va, ca, fa⟩ := hc 10 _ rfl
  obtain ⟨x0, rfl, h0⟩ := fits_i64 f0
  obtain ⟨x1, rfl, h1⟩ := fits_u64 f1
  obtain ⟨x2, rfl, h2⟩ := fits_u64 f2
  obtain ⟨x3, rfl⟩ := f3
  obtain ⟨x4, rfl, h4⟩ := fits_i64 f4
  obtain ⟨x5, rfl, h5⟩ := fits_i64 f5
  obtain ⟨x6, rfl, h6⟩ := fits_i64 f6
  obtain ⟨x7, rfl⟩ := f7
  obtain ⟨x8, rfl, h8⟩ := fits_u64 f8
  obtain ⟨x9, rfl, h9⟩ := fits_u64 f9
  obtain ⟨xa, rfl, ha'⟩ := fits_i64 fa
  exact ⟨b, off, ⟨x0, x1, x2, x3, ⟨x4, x5, x6, x7, x8, x9, xa⟩⟩, ha, ⟨h0, h1, h2, ⟨h4, h5, h6, h8, h9, ha'⟩⟩, fun wr hb => ⟨below_cell hb c0, below_cell hb c1, below_cell hb c2, below_cell hb c3, below_cell hb c4, below_cell hb c5, below_cell hb c6, below_cell hb c7, below_cell hb c8, below_cell hb c9, below_cell hb ca⟩⟩
theorem ent_cells3 {w : World} {g : Nat} {e : Ent} (h : Blk w g 51 (ec e)) : w.cell? ⟨g, 0, none⟩ = some (.int .i64 e.client) ∧ w.cell? ⟨g, 1, none⟩ = some (.int .u64 e.nonce) ∧ w.cell? ⟨g, 2, none⟩ = some (.int .u64 e.fee) ∧ w.cell? ⟨g, 3, none⟩ = some (.bool e.good) ∧ w.cell? ⟨g, 4, none⟩ = some (.int .i64 e.tx.kind) ∧ w.cell? ⟨g, 5, none⟩ = some (.int .i64 e.tx.asset) ∧ w.cell? ⟨g, 6, none⟩ = some (.int .i64 e.tx.dst) ∧ w.cell? ⟨g, 7, none⟩ = some (.bool e.tx.buy) ∧ w.cell? ⟨g, 8, none⟩ = some (.int .u64 e.tx.price) ∧ w.cell? ⟨g, 9, none⟩ = some (.int .u64 e.tx.qty) ∧ w.cell? ⟨g, 10, none⟩ = some (.int .i64 e.tx.id) :=
  ⟨h.at (i := 0) rfl, h.at (i := 1) rfl, h.at (i := 2) rfl, h.at (i := 3) rfl, h.at (i := 4) rfl, h.at (i := 5) rfl, h.at (i := 6) rfl, h.at (i := 7) rfl, h.at (i := 8) rfl, h.at (i := 9) rfl, h.at (i := 10) rfl⟩
theorem cell_blk3 {w : World} {b o : Nat} {v : Value} (h : w.cell? ⟨b, o, none⟩ = some v) : b < w.heap.size := by
  rcases Nat.lt_or_ge b w.heap.size with q | q
  · exact q
  · unfold World.cell? at h
    rw [Array.getElem?_eq_none q] at h
    simp at h
end Go.Proofs.YteabcpmpcbjicaaGreat
