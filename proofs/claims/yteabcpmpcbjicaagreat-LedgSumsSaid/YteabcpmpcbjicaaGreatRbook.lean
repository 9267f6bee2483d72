
import Derived.Test.YteabcpmpcbjicaaGreatSidA
import Derived.Test.YteabcpmpcbjicaaGreatBookA
import Derived.Test.YteabcpmpcbjicaaGreatMemA
import Derived.Deep.DrawnRows
import Derived.Deep.RegionHeld3
import Derived.StillTailTactics
import Derived.Deep.CutBlock
import Derived.Deep.DeepCutAuto
import Derived.Deep.LoopGhost
import Derived.BigQuiet
import Derived.Test.YteabcpmpcbjicaaGreatBkA
namespace Go.Proofs.YteabcpmpcbjicaaGreat
set_option linter.unusedVariables false
open Go Go.Proofs Go.RowKit
attribute [local go_sem ↓] Go.wp_at_zero Go.wp_at_succ

/-! The document's book: two sides in one block; their rows are none of F. -/
theorem Sid.chgE {w w' : World} {g o s : Nat} {up : Bool} {L : List Ord} {S : List Nat} (h : Sid w g o s up L) (k : Chg S w w') (hg : g ∉ S) (hs : L = [] ∨ s ∉ S) : Sid w' g o s up L := by
  rcases hs with rfl | hs
  · exact ⟨k.cell h.c0 hg, fun j => by rw [frozen_block (k.block g h.lt hg)]; exact h.fr j, Nat.lt_of_lt_of_le h.sl k.size,
      h.row.elim fun a ⟨c, h1, h2, h3, h4⟩ => ⟨a, c, k.cell h1 hg, h2, h3, .inl rfl⟩⟩
  · exact h.chg k hg hs
theorem Sid.low {w : World} {g o s t : Nat} {up : Bool} (h : Sid w g o s up []) (ht : t < w.heap.size) : Sid w g o t up [] :=
  ⟨h.c0, h.fr, ht, h.row.elim fun a ⟨c, h1, h2, h3, h4⟩ => ⟨a, c, h1, h2, h3, .inl rfl⟩⟩
def Rsd (w : World) (F : List Nat) (g o : Nat) (up : Bool) (L : List Ord) : Prop := ∃ s, Sid w g o s up L ∧ (L = [] ∨ (s ≠ g ∧ s ∉ F))
theorem Rsd.lt {w : World} {F : List Nat} {g o : Nat} {up : Bool} {L : List Ord} (h : Rsd w F g o up L) : g < w.heap.size := h.elim fun _ h => h.1.lt
theorem Rsd.far {w w' : World} {F F' S : List Nat} {g o : Nat} {up : Bool} {L : List Ord} (h : Rsd w F g o up L) (k : Chg S w w') (hS : ∀ x ∈ S, x ∈ F) (hg : g ∉ F) (gr : Grw w.heap.size F F') : Rsd w' F' g o up L := by
  obtain ⟨s, h1, h2⟩ := h
  refine ⟨s, h1.chgE k (fun hm => hg (hS _ hm)) (h2.imp id fun ⟨_, h4⟩ hm => h4 (hS _ hm)), h2.imp id fun ⟨h3, h4⟩ => ⟨h3, fun hm => ?_⟩⟩
  rcases gr _ hm with h5 | h5
  · exact h4 h5
  · have := h1.sl; omega
theorem Sid.other {w w' : World} {g o o2 s : Nat} {up : Bool} {L : List Ord} (h : Sid w g o2 s up L) (k : Chg [g] w w') (b : But g (o + 1) w w') (fr : ∀ j, w'.frozen? ⟨g, j, none⟩ = false) (n1 : o2 ≠ o + 1) (n2 : o2 ≠ o) (hs : L = [] ∨ s ≠ g) : Sid w' g o2 s up L := by
  refine ⟨by rw [b _ n1]; exact h.c0, fr, Nat.lt_of_lt_of_le h.sl k.size, ?_⟩
  obtain ⟨a, c, r1, r2, r3, r4⟩ := h.row
  refine ⟨a, c, by rw [b _ (by omega)]; exact r1, r2, r3, ?_⟩
  rcases hs with hs | hs
  · exact .inl hs
  · exact r4.imp id fun ⟨r5, r6⟩ => ⟨r5, Beg.chg r6 k (by simp; exact hs)⟩
theorem Rsd.other {w w' : World} {F : List Nat} {g o o2 : Nat} {up : Bool} {L : List Ord} (h : Rsd w F g o2 up L) (k : Chg [g] w w') (b : But g (o + 1) w w') (fr : ∀ j, w'.frozen? ⟨g, j, none⟩ = false) (n1 : o2 ≠ o + 1) (n2 : o2 ≠ o) : Rsd w' F g o2 up L := by
  obtain ⟨s, h1, h2⟩ := h
  refine ⟨s, ⟨by rw [b _ n1]; exact h1.c0, fr, Nat.lt_of_lt_of_le h1.sl k.size, ?_⟩, h2⟩
  obtain ⟨a, c, r1, r2, r3, r4⟩ := h1.row
  refine ⟨a, c, by rw [b _ (by omega)]; exact r1, r2, r3, ?_⟩
  rcases h2 with h2 | h2
  · exact .inl h2
  · exact r4.imp id fun ⟨r5, r6⟩ => ⟨r5, Beg.chg r6 k (by simp; exact h2.1)⟩
theorem Rsd.new {w w' : World} {F : List Nat} {g o s s' : Nat} {up : Bool} {L' : List Ord} (hg : g < w.heap.size) (hF : ∀ x ∈ F, x < w.heap.size) (hs : s ≠ g ∧ s ∉ F) (h' : Sid w' g o s' up L') (e : s' = s ∨ w.heap.size ≤ s') : Rsd w' F g o up L' := by
  refine ⟨s', h', .inr ?_⟩
  rcases e with rfl | e
  · exact hs
  · exact ⟨by omega, fun hm => by have := hF _ hm; omega⟩
structure Rbk (w : World) (F : List Nat) (g : Nat) (L M : List Ord) : Prop where
  b : Rsd w F g 0 false L
  a : Rsd w F g 2 true M
  fr : ∀ x ∈ F, x < w.heap.size
  ne : g ∉ F
theorem Rbk.far {w w' : World} {F F' S : List Nat} {g : Nat} {L M : List Ord} (h : Rbk w F g L M) (k : Chg S w w') (hS : ∀ x ∈ S, x ∈ F) (gr : Grw w.heap.size F F') (hF' : ∀ x ∈ F', x < w'.heap.size) : Rbk w' F' g L M :=
  ⟨h.b.far k hS h.ne gr, h.a.far k hS h.ne gr, hF', fun hm => (gr _ hm).elim h.ne fun h5 => by have := h.b.lt; omega⟩
theorem Rbk.to {w w' : World} {F : List Nat} {g : Nat} {L M : List Ord} (h : Rbk w F g L M) (k : Chg [] w w') : Rbk w' F g L M :=
  h.far k (by simp) (Grw.refl _ _) fun x hx => Nat.lt_of_lt_of_le (h.fr x hx) k.size
/-- One side of it; the book again, when the side has turned. -/
theorem Rbk.side {w : World} {F : List Nat} {g : Nat} {L M : List Ord} (h : Rbk w F g L M) (buy : Bool) : ∃ o up, (o = if buy = true then 0 else 2) ∧ up = !buy ∧ Rsd w F g o up (if buy = true then L else M) ∧
    ∀ (w' : World) Q', Rsd w' F g o up Q' → Chg [g] w w' → But g (o + 1) w w' → Rbk w' F g (if buy = true then Q' else L) (if buy = true then M else Q') := by
  cases buy
  · refine ⟨2, true, rfl, rfl, h.a, fun w' Q' hq c b => ⟨?_, hq, fun x hx => Nat.lt_of_lt_of_le (h.fr x hx) c.size, h.ne⟩⟩
    exact h.b.other c b (hq.elim fun _ h => h.1.fr) (by omega) (by omega)
  · refine ⟨0, false, rfl, rfl, h.b, fun w' Q' hq c b => ⟨hq, ?_, fun x hx => Nat.lt_of_lt_of_le (h.fr x hx) c.size, h.ne⟩⟩
    exact h.a.other c b (hq.elim fun _ h => h.1.fr) (by omega) (by omega)

/-- NewBook. -/
theorem rNewBook (w : World) (hw : 0 < w.heap.size) (F : List Nat) (hF : ∀ x ∈ F, x < w.heap.size) : Calls Tryz.prog 132 #[] w fun e w' => ∃ g, e = .returned (.pointer (some ⟨g, 0, none⟩)) ∧ w.heap.size ≤ g ∧ Rbk w' F g [] [] ∧ Chg [] w w' := by
  go_enter Tryz.func132, Tryz.ntmps132
  go_wp2_with fail
  have hb := Blk.new w [.bool false, .slice none 0 0, .bool true, .slice none 0 0] 167
  have hc : Chg [] w (w.alloc (.cells #[.bool false, .slice none 0 0, .bool true, .slice none 0 0] 167)) := (Chg.refl _ _).alloc _
  have s1 : Sid (w.alloc (.cells #[.bool false, .slice none 0 0, .bool true, .slice none 0 0] 167)) w.heap.size 0 w.heap.size false [] := ⟨hb.at (i := 0) rfl, fun k => hb.free k, hb.lt, none, 0, hb.at (i := 1) rfl, by simp, by simp [maxLen], .inl rfl⟩
  have s2 : Sid (w.alloc (.cells #[.bool false, .slice none 0 0, .bool true, .slice none 0 0] 167)) w.heap.size 2 w.heap.size true [] := ⟨hb.at (i := 2) rfl, fun k => hb.free k, hb.lt, none, 0, hb.at (i := 3) rfl, by simp, by simp [maxLen], .inl rfl⟩
  go_ret
  exact ⟨_, rfl, Nat.le_refl _, ⟨⟨_, s1, .inl rfl⟩, ⟨_, s2, .inl rfl⟩, fun x hx => by have := hF x hx; simp; omega, fun hm => by have := hF _ hm; omega⟩, hc⟩

theorem rSide (g : Nat) (buy : Bool) (w : World) : Calls Tryz.prog 142 #[.pointer (some ⟨g, 0, none⟩), .bool buy] w fun e w' => e = .returned (.pointer (some ⟨g, if buy = true then 0 else 2, none⟩)) ∧ w = w' := by
  cases buy
  · go_enter Tryz.func142, Tryz.ntmps142
    go_wp2_with fail
    go_ret
    exact ⟨rfl, rfl⟩
  · go_enter Tryz.func142, Tryz.ntmps142
    go_wp2_with fail
    go_ret
    exact ⟨rfl, rfl⟩

theorem rSide0 (g : Nat) (w : World) : Calls Tryz.prog 142 #[.pointer (some ⟨g, 0, none⟩), .bool true] w fun e w' => e = .returned (.pointer (some ⟨g, 0, none⟩)) ∧ w = w' := rSide g true w
theorem rSide2 (g : Nat) (w : World) : Calls Tryz.prog 142 #[.pointer (some ⟨g, 0, none⟩), .bool false] w fun e w' => e = .returned (.pointer (some ⟨g, 2, none⟩)) ∧ w = w' := rSide g false w
theorem rSideO {g o : Nat} {buy : Bool} (ho : o = if buy = true then 0 else 2) (w : World) : Calls Tryz.prog 142 #[.pointer (some ⟨g, 0, none⟩), .bool buy] w fun e w' => e = .returned (.pointer (some ⟨g, o, none⟩)) ∧ w = w' := by
  rw [ho]; exact rSide g buy w
-- gen
/-- Rest. -/
theorem rbRest {w : World} {F : List Nat} {g : Nat} {L M : List Ord} (h : Rbk w F g L M) (x : Ord) (hx : U x.qty) (zL : L.length ≤ 100000000000) (zM : M.length ≤ 100000000000) :
    Calls Tryz.prog 173 #[.pointer (some ⟨g, 0, none⟩), ov x] w fun e w' => e = .returned (.tuple #[]) ∧ Rbk w' F g (restL x L) (restM x M) ∧ Chg [g] w w' := by
  have hb : Blk (w.alloc (.cells #[.int .i64 x.id, .int .i64 x.client, .bool x.buy, .int .u64 x.price, .int .u64 x.qty] 73)) w.heap.size 73 (oc x) := Blk.new w (oc x) 73
  have hc : Chg [] w (w.alloc (.cells #[.int .i64 x.id, .int .i64 x.client, .bool x.buy, .int .u64 x.price, .int .u64 x.qty] 73)) := (Chg.refl _ _).alloc _
  have y4 := hb.at (i := 4) rfl
  have hgl := h.b.lt
  have hfl := h.fr
  have h1 := h.to hc
  have HC := Lib.hid hc
  obtain ⟨x1, x2⟩ := hx
  clear h hc
  by_cases hq : x.qty = 0
  · have e1 : restL x L = L := by unfold restL; rw [if_neg (by simp [hq])]
    have e2 : restM x M = M := by unfold restM; rw [if_neg (by simp [hq])]
    rw [e1, e2]
    have d1 : decide (0 < x.qty) = false := by simp; omega
    clear e1 e2 hq
    go_enter Tryz.func173, Tryz.ntmps173
    go_wp2_with fail
    go_end0
    exact ⟨rfl, h1, HC.out.mono (by simp)⟩
  · have d1 : decide (0 < x.qty) = true := by simp; omega
    have hne : x.qty ≠ 0 := hq
    have HR : Hid (restL x L = if x.buy = true then ins false x L else L) := by show _ = _; unfold restL; by_cases e : x.buy = true <;> simp [hne, e]
    have HS : Hid (restM x M = if x.buy = true then M else ins true x M) := by show _ = _; unfold restM; cases e : x.buy <;> simp [hne]
    have y0 := hb.at (i := 0) rfl
    have y1 := hb.at (i := 1) rfl
    have y2 := hb.at (i := 2) rfl
    have y3 := hb.at (i := 3) rfl
    have hlb := hb.lt
    go_enter Tryz.func173, Tryz.ntmps173
    clear hb
    go_upto_region 2 with (fail)
    obtain ⟨n, hn⟩ : ∃ n, w.heap.size = n := ⟨_, rfl⟩
    rw [hn] at y0 y1 y2 y3 y4 hgl hfl hlb ⊢
    have HN := Lib.hid hn
    clear hn
    generalize w.alloc _ = W at *
    obtain ⟨o, up, ho, hup, hsd, hback⟩ := h1.side x.buy
    have HB := Lib.hid hback
    have HO := Lib.hid ho
    have HU := Lib.hid hup
    have hzq : (if x.buy = true then L else M).length ≤ 100000000000 := by split <;> assumption
    obtain ⟨Q, hQ⟩ : ∃ Q, (if x.buy = true then L else M) = Q := ⟨_, rfl⟩
    rw [hQ] at hsd hzq
    have HQ := Lib.hid hQ
    obtain ⟨s, q1, q2, q3⟩ : ∃ s, Sid W g o s up Q ∧ s ≠ g ∧ s ∉ F := by
      obtain ⟨s, q1, q2⟩ := hsd
      rcases q2 with rfl | q2
      · exact ⟨n, q1.low hlb, by omega, fun hm => by have := hfl _ hm; omega⟩
      · exact ⟨s, q1, q2⟩
    have h2 : Sid W.drew g o s up Q := q1.chgE (Chg.refl [] W).drew (by simp) (.inr (by simp))
    have hng : n ∉ [g] := by simp; omega
    have hfW : Hid (∀ z ∈ F, z < W.drew.heap.size) := (h1.to (Chg.refl _ _).drew).fr
    have hgW : g < W.drew.heap.size := h2.lt
    clear hQ ho hup hsd hback h1 q1 zL zM
    refine wp_region_held_drew (S := (fun w' => w'.cell? ⟨n, 0, none⟩ = some (.int .i64 x.id) ∧ w'.cell? ⟨n, 1, none⟩ = some (.int .i64 x.client) ∧ w'.cell? ⟨n, 2, none⟩ = some (.bool x.buy) ∧ w'.cell? ⟨n, 3, none⟩ = some (.int .u64 x.price) ∧ w'.cell? ⟨n, 4, none⟩ = some (.int .u64 x.qty))) (by kernel_rfl) ⟨y0, y1, y2, y3, y4⟩ (fun _ => ?_)
    refine wpAnyH_take (i := 0) (v := ?_) rfl (by kernel_rfl) (by kernel_rfl) (by kernel_rfl) (fun _ _ _ h => h) (Or.inl ⟨by rfl, ?_⟩) ⟨y0, y1, y2, y3, y4⟩ ?_
    rotate_left
    · (intro w hSw; (try dsimp only at hSw); go_simp; (try (with_reducible rfl)))
    change wpAnyH _ _ _ _ _ _ _ (Act.put _ (some 7) _) _
    simp only [Act.put, List.setIfInBounds_toArray, List.set_cons_succ, List.set_cons_zero]
    refine wpAnyH_take (i := 1) (v := ?_) rfl (by kernel_rfl) (by kernel_rfl) (by kernel_rfl) (fun _ _ _ h => h) (Or.inl ⟨by rfl, ?_⟩) ⟨y0, y1, y2, y3, y4⟩ ?_
    rotate_left
    · (intro w hSw; (try dsimp only at hSw); go_simp; (try (with_reducible rfl)))
    change wpAnyH _ _ _ _ _ _ _ (Act.put _ (some 8) _) _
    simp only [Act.put, List.setIfInBounds_toArray, List.set_cons_succ, List.set_cons_zero]
    refine wpAnyH_take (i := 2) (v := ?_) rfl (by kernel_rfl) (by kernel_rfl) (by kernel_rfl) (fun _ _ _ h => h) (Or.inl ⟨by rfl, ?_⟩) ⟨y0, y1, y2, y3, y4⟩ ?_
    rotate_left
    · (intro w hSw; (try dsimp only at hSw); go_simp; (try (with_reducible rfl)))
    change wpAnyH _ _ _ _ _ _ _ (Act.put _ (some 9) _) _
    simp only [Act.put, List.setIfInBounds_toArray, List.set_cons_succ, List.set_cons_zero]
    refine wpAnyH_take (i := 4) (v := ?_) rfl (by kernel_rfl) (by kernel_rfl) (by kernel_rfl) (fun _ _ _ h => h) (Or.inl ⟨by rfl, ?_⟩) ⟨y0, y1, y2, y3, y4⟩ ?_
    rotate_left
    · (intro w hSw; (try dsimp only at hSw); go_simp; (try (with_reducible rfl)))
    change wpAnyH _ _ _ _ _ _ _ (Act.put _ (some 11) _) _
    simp only [Act.put, List.setIfInBounds_toArray, List.set_cons_succ, List.set_cons_zero]
    refine wpAnyH_ready (rs := [3]) (by kernel_rfl) (by simp) (AllReadyH.cons rfl (fun K hK => ?_) AllReadyH.nil)
    go_simp
    refine (rSideO HO.out _).mono ?_
    rintro e w3 ⟨rfl, rfl⟩
    go_wp2_with fail
    refine hK.out _ _ ⟨y0, y1, y2, y3, y4⟩ (fun hHeld => ?_)
    clear hK K
    refine wpAnyH_ready (rs := [5]) (by kernel_rfl) (by simp) (AllReadyH.cons rfl (fun K hK => ?_) AllReadyH.nil)
    go_simp
    refine (rPush h2 x hzq).mono ?_
    rintro e w4 ⟨rfl, s', q, c, b, e'⟩
    have HZ : Hid (w4.cell? ⟨n, 0, none⟩ = some (.int .i64 x.id) ∧ w4.cell? ⟨n, 1, none⟩ = some (.int .i64 x.client) ∧ w4.cell? ⟨n, 2, none⟩ = some (.bool x.buy) ∧ w4.cell? ⟨n, 3, none⟩ = some (.int .u64 x.price) ∧ w4.cell? ⟨n, 4, none⟩ = some (.int .u64 x.qty)) := ⟨c.cell y0 hng, c.cell y1 hng, c.cell y2 hng, c.cell y3 hng, c.cell y4 hng⟩
    go_wp2_with fail
    refine hK.out _ _ HZ.out (fun hHeld => ?_)
    clear hK K
    refine wpAnyH_done (by kernel_rfl) ?_ _
    clear y0 y1 y2 y3 y4 hlb d1
    have hend : Rbk w4 F g (restL x L) (restM x M) := by
      have h5 := HB.out w4 _ (Rsd.new hgW hfW.out ⟨q2, q3⟩ q e') ((Chg.refl [] W).drew.mono (by simp) |>.trans c) b
      rw [HR.out, HS.out]
      have hu := HU.out
      have hq := HQ.out
      cases hb : x.buy <;> simp only [hb, if_true, Bool.false_eq_true, if_false, Bool.not_false, Bool.not_true] at h5 hu hq ⊢ <;> subst hu <;> subst hq <;> exact h5
    have hcc : Chg [g] w w4 := (HC.out.mono (by simp)).trans (((Chg.refl [] W).drew.mono (by simp)).trans c)
    go_wp2_with fail
    go_end0
    exact ⟨rfl, hend, hcc⟩

set_option maxRecDepth 1000000 in
set_option maxHeartbeats 8000000 in
theorem find_reg {Q : Exit → Act → World → Prop} {u0 u2 u3 u5 u6 u8 u9 u10 u11 u12 u13 u14 u15 u16 u17 u18 u19 u20 u21 u22 u23 u24 u25 u26 u27 u28 u29 : Value} (hP : ∀ c a d v w, Q (.panic c) (Act.put a d v) w → Q (.panic c) a w) {g o s n c j : Nat} {up : Bool} {id : Int} {L : List Ord} {x : Ord} {W : World} (b1 : Sid W g o s up L) (iQ : Ids L) (zQ : L.length ≤ 1000000000000) (hat : Hid (atQ id L = (j : Int))) (hn : n ≠ g ∧ n ≠ s) (a0 : W.cell? ⟨n, 0, none⟩ = some (.int .i64 0)) (a1 : W.cell? ⟨n, 1, none⟩ = some (.int .i64 0)) (a2 : W.cell? ⟨n, 2, none⟩ = some (.bool false)) (a3 : W.cell? ⟨n, 3, none⟩ = some (.int .u64 0)) (a4 : W.cell? ⟨n, 4, none⟩ = some (.int .u64 0)) (f0 : W.frozen? ⟨n, 0, none⟩ = false) (f1 : W.frozen? ⟨n, 1, none⟩ = false) (f2 : W.frozen? ⟨n, 2, none⟩ = false) (f3 : W.frozen? ⟨n, 3, none⟩ = false) (f4 : W.frozen? ⟨n, 4, none⟩ = false) (r0 : W.cell? ⟨g, o + 1, none⟩ = some (.slice (some ⟨s, 0, none⟩) L.length c)) (x0 : W.cell? ⟨s, j * 5, none⟩ = some (.int .i64 x.id)) (x1 : W.cell? ⟨s, j * 5 + 1, none⟩ = some (.int .i64 x.client)) (x2 : W.cell? ⟨s, j * 5 + 2, none⟩ = some (.bool x.buy)) (x3 : W.cell? ⟨s, j * 5 + 3, none⟩ = some (.int .u64 x.price)) (x4 : W.cell? ⟨s, j * 5 + 4, none⟩ = some (.int .u64 x.qty)) (e1 : (0 : Int) ≤ (j : Int)) (e2 : (j : Int) < (L.length : Int))
    (hQ : ∀ (x20 x21 x22 x23 x24 x25 x26 x27 x28 : Value), Q .normal ⟨#[u0, .int .i64 id, u2, u3, .pointer (some ⟨n, 0, none⟩), .bool true, u6, .pointer (some ⟨g, o, none⟩), u8, u9, u10, u11, u12, u13, u14, u15, u16, u17, u18, u19, x20, x21, x22, x23, x24, x25, x26, x27, x28, u29], []⟩ (sto W.drew n 0 x)) :
    Code.wp Tryz.prog (regionOf Tryz.f170 6) Q ⟨#[u0, .int .i64 id, u2, u3, .pointer (some ⟨n, 0, none⟩), u5, u6, .pointer (some ⟨g, o, none⟩), u8, u9, u10, u11, u12, u13, u14, u15, u16, u17, u18, u19, u20, u21, u22, u23, u24, u25, u26, u27, u28, u29], []⟩ W := by
  conv => arg 2; whnf
  obtain ⟨hn1, hn2⟩ := hn
  have HZ : Hid ((fun w' => w'.cell? ⟨g, o + 1, none⟩ = some (.slice (some ⟨s, 0, none⟩) L.length c) ∧ w'.cell? ⟨s, j * 5, none⟩ = some (.int .i64 x.id) ∧ w'.cell? ⟨s, j * 5 + 1, none⟩ = some (.int .i64 x.client) ∧ w'.cell? ⟨s, j * 5 + 2, none⟩ = some (.bool x.buy) ∧ w'.cell? ⟨s, j * 5 + 3, none⟩ = some (.int .u64 x.price) ∧ w'.cell? ⟨s, j * 5 + 4, none⟩ = some (.int .u64 x.qty)) (sto W.drew n 0 x)) := by
    have hc2 : Chg [n] W.drew (sto W.drew n 0 x) := sto_chg (Chg.refl _ _) _ _ _ (by simp)
    exact ⟨hc2.cell r0 (by simp; omega), hc2.cell x0 (by simp; omega), hc2.cell x1 (by simp; omega), hc2.cell x2 (by simp; omega), hc2.cell x3 (by simp; omega), hc2.cell x4 (by simp; omega)⟩
  refine wp_region_held_drew (S := (fun w' => w'.cell? ⟨g, o + 1, none⟩ = some (.slice (some ⟨s, 0, none⟩) L.length c) ∧ w'.cell? ⟨s, j * 5, none⟩ = some (.int .i64 x.id) ∧ w'.cell? ⟨s, j * 5 + 1, none⟩ = some (.int .i64 x.client) ∧ w'.cell? ⟨s, j * 5 + 2, none⟩ = some (.bool x.buy) ∧ w'.cell? ⟨s, j * 5 + 3, none⟩ = some (.int .u64 x.price) ∧ w'.cell? ⟨s, j * 5 + 4, none⟩ = some (.int .u64 x.qty))) (by kernel_rfl) ⟨r0, x0, x1, x2, x3, x4⟩ (fun _ => ?_)
  refine wpAnyH_take (i := 0) (v := ?_) rfl (by kernel_rfl) (by kernel_rfl) (by kernel_rfl) (fun c a w h => hP c a _ _ w h) (Or.inl ⟨by rfl, ?_⟩) ⟨r0, x0, x1, x2, x3, x4⟩ ?_
  rotate_left
  · (intro w hSw; (try dsimp only at hSw); go_simp; (try (with_reducible rfl)))
  change wpAnyH _ _ _ _ _ _ _ (Act.put _ (some 20) _) _
  simp only [Act.put, List.setIfInBounds_toArray, List.set_cons_succ, List.set_cons_zero]
  refine wpAnyH_take (i := 1) (v := ?_) rfl (by kernel_rfl) (by kernel_rfl) (by kernel_rfl) (fun c a w h => hP c a _ _ w h) (Or.inl ⟨by rfl, ?_⟩) ⟨r0, x0, x1, x2, x3, x4⟩ ?_
  rotate_left
  · (intro w hSw; (try dsimp only at hSw); go_simp; (try (with_reducible rfl)))
  change wpAnyH _ _ _ _ _ _ _ (Act.put _ (some 21) _) _
  simp only [Act.put, List.setIfInBounds_toArray, List.set_cons_succ, List.set_cons_zero]
  refine wpAnyH_take (i := 2) (v := ?_) rfl (by kernel_rfl) (by kernel_rfl) (by kernel_rfl) (fun c a w h => hP c a _ _ w h) (Or.inl ⟨by rfl, ?_⟩) ⟨r0, x0, x1, x2, x3, x4⟩ ?_
  rotate_left
  · (intro w hSw; (try dsimp only at hSw); go_simp; (try (with_reducible rfl)))
  change wpAnyH _ _ _ _ _ _ _ (Act.put _ (some 22) _) _
  simp only [Act.put, List.setIfInBounds_toArray, List.set_cons_succ, List.set_cons_zero]
  refine wpAnyH_take (i := 3) (v := ?_) rfl (by kernel_rfl) (by kernel_rfl) (by kernel_rfl) (fun c a w h => hP c a _ _ w h) (Or.inl ⟨by rfl, ?_⟩) ⟨r0, x0, x1, x2, x3, x4⟩ ?_
  rotate_left
  · (intro w hSw; (try dsimp only at hSw); go_simp; (try (with_reducible rfl)))
  change wpAnyH _ _ _ _ _ _ _ (Act.put _ (some 23) _) _
  simp only [Act.put, List.setIfInBounds_toArray, List.set_cons_succ, List.set_cons_zero]
  refine wpAnyH_take (i := 4) (v := ?_) rfl (by kernel_rfl) (by kernel_rfl) (by kernel_rfl) (fun c a w h => hP c a _ _ w h) (Or.inl ⟨by rfl, ?_⟩) ⟨r0, x0, x1, x2, x3, x4⟩ ?_
  rotate_left
  · (intro w hSw; (try dsimp only at hSw); go_simp; (try (with_reducible rfl)))
  change wpAnyH _ _ _ _ _ _ _ (Act.put _ (some 24) _) _
  simp only [Act.put, List.setIfInBounds_toArray, List.set_cons_succ, List.set_cons_zero]
  refine wpAnyH_take (i := 5) (v := ?_) rfl (by kernel_rfl) (by kernel_rfl) (by kernel_rfl) (fun c a w h => hP c a _ _ w h) (Or.inl ⟨by rfl, ?_⟩) ⟨r0, x0, x1, x2, x3, x4⟩ ?_
  rotate_left
  · (intro w hSw; (try dsimp only at hSw); go_simp; (try (with_reducible rfl)))
  change wpAnyH _ _ _ _ _ _ _ (Act.put _ (some 25) _) _
  simp only [Act.put, List.setIfInBounds_toArray, List.set_cons_succ, List.set_cons_zero]
  refine wpAnyH_ready (rs := [6]) (by kernel_rfl) (by simp) (AllReadyH.cons rfl (fun K hK => ?_) AllReadyH.nil)
  go_simp
  refine (rAt_eq (b1.chg (Chg.refl [] W).drew (by simp) (by simp)) iQ id zQ).mono ?_
  rw [hat.out]
  rintro e w5 ⟨rfl, rfl⟩
  go_wp2_with fail
  refine hK.out _ _ ⟨r0, x0, x1, x2, x3, x4⟩ (fun hHeld => ?_)
  clear hK K
  refine wpAnyH_take (i := 7) (v := ?_) rfl (by kernel_rfl) (by kernel_rfl) (by kernel_rfl) (fun c a w h => hP c a _ _ w h) (Or.inl ⟨by rfl, ?_⟩) ⟨r0, x0, x1, x2, x3, x4⟩ ?_
  rotate_left
  · (intro w hSw; (try dsimp only at hSw); go_simp; (try (with_reducible rfl)))
  change wpAnyH _ _ _ _ _ _ _ (Act.put _ (some 27) _) _
  simp only [Act.put, List.setIfInBounds_toArray, List.set_cons_succ, List.set_cons_zero]
  refine wpAnyH_take (i := 8) (v := ?_) rfl (by kernel_rfl) (by kernel_rfl) (by kernel_rfl) (fun c a w h => hP c a _ _ w h) (Or.inl ⟨by rfl, ?_⟩) ⟨r0, x0, x1, x2, x3, x4⟩ ?_
  rotate_left
  · (intro w hSw; (try dsimp only at hSw); go_simp; (try (with_reducible rfl)))
  change wpAnyH _ _ _ _ _ _ _ (Act.put _ (some 28) _) _
  simp only [Act.put, List.setIfInBounds_toArray, List.set_cons_succ, List.set_cons_zero]
  refine wpAnyH_ready (rs := [9]) (by kernel_rfl) (by simp) (AllReadyH.cons rfl (fun K hK => ?_) AllReadyH.nil)
  go_simp
  refine hK.out _ _ HZ.out (fun hHeld => ?_)
  clear hK K
  refine wpAnyH_take (i := 10) (v := ?_) rfl (by kernel_rfl) (by kernel_rfl) (by kernel_rfl) (fun c a w h => hP c a _ _ w h) (Or.inl ⟨by rfl, ?_⟩) HZ.out ?_
  rotate_left
  · (intro w hSw; (try dsimp only at hSw); go_simp; (try (with_reducible rfl)))
  change wpAnyH _ _ _ _ _ _ _ (Act.put _ (some 5) _) _
  simp only [Act.put, List.setIfInBounds_toArray, List.set_cons_succ, List.set_cons_zero]
  refine wpAnyH_done (by kernel_rfl) ?_ _
  exact hQ _ _ _ _ _ _ _ _ _

set_option maxRecDepth 100000 in
set_option maxHeartbeats 4000000 in
/-- Find. -/
theorem rbFind {w : World} {F : List Nat} {g : Nat} {L M : List Ord} (h : Rbk w F g L M) (iL : Ids L) (iM : Ids M) (id : Int) (zL : L.length ≤ 1000000000000) (zM : M.length ≤ 1000000000000) :
    Calls Tryz.prog 170 #[.pointer (some ⟨g, 0, none⟩), .int .i64 id] w fun e w' => e = .returned (.tuple #[ov (pickB id L M).1, .bool (pickB id L M).2]) ∧ Chg [] w w' := by
  have B0 : Blk (w.alloc (.cells #[.int .i64 0, .int .i64 0, .bool false, .int .u64 0, .int .u64 0] 73)) w.heap.size 73 (oc Ord.zero) := Blk.new w (oc Ord.zero) 73
  have c0 : Chg [] w (w.alloc (.cells #[.int .i64 0, .int .i64 0, .bool false, .int .u64 0, .int .u64 0] 73)) := (Chg.refl _ _).alloc _
  have h0 := h.to c0
  have hgl := h.b.lt
  have hfl := h.fr
  have HC := Lib.hid c0
  have HH := Lib.hid h0
  obtain ⟨s1, b1', gd1⟩ := h.b
  obtain ⟨s2, b2', gd2⟩ := h.a
  have sl1 := b1'.sl
  have sl2 := b2'.sl
  have b1 := b1'.chg c0 (by simp) (by simp)
  have b2 := b2'.chg c0 (by simp) (by simp)
  clear h c0 h0 b1' b2'
  go_enter Tryz.func170, Tryz.ntmps170
  go_wp2_with fail
  have hnl := B0.lt
  have a0 := B0.at (i := 0) rfl
  have a1 := B0.at (i := 1) rfl
  have a2 := B0.at (i := 2) rfl
  have a3 := B0.at (i := 3) rfl
  have a4 := B0.at (i := 4) rfl
  have f0 := B0.free 0
  have f1 := B0.free 1
  have f2 := B0.free 2
  have f3 := B0.free 3
  have f4 := B0.free 4
  obtain ⟨n, hn⟩ : ∃ n, w.heap.size = n := ⟨_, rfl⟩
  rw [hn] at B0 hgl hfl hnl sl1 sl2 a0 a1 a2 a3 a4 f0 f1 f2 f3 f4 ⊢
  have HN := Lib.hid hn
  clear hn
  generalize w.alloc _ = W at *
  go_loopw [6] (fun i wr => ∃ k : Nat, k ≤ 2 ∧ i = .int .i64 k ∧ Hid ((1 ≤ k → (pickQ id L).2 = false) ∧ (2 ≤ k → (pickQ id M).2 = false)) ∧ W = wr) (fun i _ => 2 - (intOf i).toNat)
  case atStart => exact ⟨0, by omega, rfl, ⟨fun h => by omega, fun h => by omega⟩, rfl⟩
  case round =>
    obtain ⟨k, hk, rfl, HK, rfl⟩ := hrel
    rcases (by omega : k = 0 ∨ k = 1 ∨ k = 2) with rfl | rfl | rfl
    · have hpre : Hid (1 ≤ 0 → (pickQ id L).2 = false) := fun h => HK.out.1 h
      clear HK
      rcases atQ_pick (k := id) iL with ⟨j, hj, hat, hpk⟩ | ⟨hat, hpk⟩
      · have hat9 := Lib.hid hat
        have HP : Hid (pickQ id L = (L.getD j Ord.zero, true)) := hpk
        obtain ⟨c, r0, r1, r2, -, x0, x1, x2, x3, x4⟩ := b1.at hj
        generalize L.getD j Ord.zero = x at *
        have HF : Hid (pickB id L M = (x, true)) := by show pickB id L M = (x, true); unfold pickB; rw [HP.out]; rfl
        have e1 : (0 : Int) ≤ (j : Int) := by omega
        have e2 : (j : Int) < (L.length : Int) := by omega
        have e3 : decide ((0 : Int) ≤ (j : Int)) = true := by simp
        go_wp2_with fail
        refine (rSide0 g _).mono ?_
        rintro e w3 ⟨rfl, rfl⟩
        go_wp2_with fail
        refine (rAt_eq b1 iL id zL).mono ?_
        rw [hat9.out]
        rintro e w3 ⟨rfl, rfl⟩
        have hc3 : Chg [] w (sto W.drew n 0 x) := sto_chg HC.out.drew _ _ _ (by right; rw [← HN.out]; exact Nat.le_refl _)
        go_upto_region 6 with (fail)
        refine find_reg (o := 0) (by intro c a d v w h; cases d <;> exact h) b1 iL zL hat9 (by omega) a0 a1 a2 a3 a4 f0 f1 f2 f3 f4 r0 x0 x1 x2 x3 x4 e1 e2 ?_
        intros
        have hB9 : Blk (sto W.drew n 0 x) n 73 (oc x) := ((((B0.drew.set 0 (.int .i64 x.id)).set 1 (.int .i64 x.client)).set 2 (.bool x.buy)).set 3 (.int .u64 x.price)).set 4 (.int .u64 x.qty)
        have v0 := hB9.at (i := 0) rfl
        have v1 := hB9.at (i := 1) rfl
        have v2 := hB9.at (i := 2) rfl
        have v3 := hB9.at (i := 3) rfl
        have v4 := hB9.at (i := 4) rfl
        generalize sto W.drew n 0 x = W9 at *
        clear x0 x1 x2 x3 x4 r0 b1 b2 hj hpk hat
        go_wp2_with fail
        exact bodyPost_ret (v := .tuple #[ov x, .bool true]) (by simp [results, Tryz.results170, go_sem, v0, v1, v2, v3, v4]) rfl ⟨by rw [HF.out], hc3⟩
      · have hat9 := Lib.hid hat
        have HP := Lib.hid hpk
        clear hat hpk
        go_wp2_with fail
        refine (rSide0 g _).mono ?_
        rintro e w3 ⟨rfl, rfl⟩
        go_wp2_with fail
        refine (rAt_eq b1 iL id zL).mono ?_
        rw [hat9.out]
        rintro e w3 ⟨rfl, rfl⟩
        go_wp2_with fail
        go_roundw
        case rel => exact ⟨1, by omega, rfl, ⟨fun _ => by rw [HP.out], fun h => by omega⟩, by trivial⟩
        case measure => simp [intOf]
    · have hpre : Hid (1 ≤ 1 → (pickQ id L).2 = false) := fun h => HK.out.1 h
      clear HK
      rcases atQ_pick (k := id) iM with ⟨j, hj, hat, hpk⟩ | ⟨hat, hpk⟩
      · have hat9 := Lib.hid hat
        have HP : Hid (pickQ id M = (M.getD j Ord.zero, true)) := hpk
        obtain ⟨c, r0, r1, r2, -, x0, x1, x2, x3, x4⟩ := b2.at hj
        generalize M.getD j Ord.zero = x at *
        have HF : Hid (pickB id L M = (x, true)) := by show pickB id L M = (x, true); unfold pickB; rw [hpre.out (by omega)]; simp; rw [HP.out]
        have e1 : (0 : Int) ≤ (j : Int) := by omega
        have e2 : (j : Int) < (M.length : Int) := by omega
        have e3 : decide ((0 : Int) ≤ (j : Int)) = true := by simp
        go_wp2_with fail
        refine (rSide2 g _).mono ?_
        rintro e w3 ⟨rfl, rfl⟩
        go_wp2_with fail
        refine (rAt_eq b2 iM id zM).mono ?_
        rw [hat9.out]
        rintro e w3 ⟨rfl, rfl⟩
        have hc3 : Chg [] w (sto W.drew n 0 x) := sto_chg HC.out.drew _ _ _ (by right; rw [← HN.out]; exact Nat.le_refl _)
        go_upto_region 6 with (fail)
        refine find_reg (o := 2) (by intro c a d v w h; cases d <;> exact h) b2 iM zM hat9 (by omega) a0 a1 a2 a3 a4 f0 f1 f2 f3 f4 r0 x0 x1 x2 x3 x4 e1 e2 ?_
        intros
        have hB9 : Blk (sto W.drew n 0 x) n 73 (oc x) := ((((B0.drew.set 0 (.int .i64 x.id)).set 1 (.int .i64 x.client)).set 2 (.bool x.buy)).set 3 (.int .u64 x.price)).set 4 (.int .u64 x.qty)
        have v0 := hB9.at (i := 0) rfl
        have v1 := hB9.at (i := 1) rfl
        have v2 := hB9.at (i := 2) rfl
        have v3 := hB9.at (i := 3) rfl
        have v4 := hB9.at (i := 4) rfl
        generalize sto W.drew n 0 x = W9 at *
        clear x0 x1 x2 x3 x4 r0 b2 b1 hj hpk hat
        go_wp2_with fail
        exact bodyPost_ret (v := .tuple #[ov x, .bool true]) (by simp [results, Tryz.results170, go_sem, v0, v1, v2, v3, v4]) rfl ⟨by rw [HF.out], hc3⟩
      · have hat9 := Lib.hid hat
        have HP := Lib.hid hpk
        clear hat hpk
        go_wp2_with fail
        refine (rSide2 g _).mono ?_
        rintro e w3 ⟨rfl, rfl⟩
        go_wp2_with fail
        refine (rAt_eq b2 iM id zM).mono ?_
        rw [hat9.out]
        rintro e w3 ⟨rfl, rfl⟩
        go_wp2_with fail
        go_roundw
        case rel => exact ⟨2, by omega, rfl, ⟨fun _ => hpre.out (by omega), fun _ => by rw [HP.out]⟩, by trivial⟩
        case measure => simp [intOf]
    · have h1 := HK.out.1 (by omega)
      have h2 := HK.out.2 (by omega)
      have HF : Hid (pickB id L M = (Ord.zero, false)) := by
        show _ = _
        rcases pickQ_spec id L with ⟨h, -, -⟩ | ⟨e1, e1'⟩
        · rw [h1] at h; simp at h
        · rcases pickQ_spec id M with ⟨h, -, -⟩ | ⟨e2, e2'⟩
          · rw [h2] at h; simp at h
          · unfold pickB; rw [e1]; simp; exact e2
      have c5 : Chg [n] W (sto W n 0 Ord.zero) := sto_chg (Chg.refl _ _) _ _ _ (by simp)
      have hc3 : Chg [] w (sto W n 0 Ord.zero) := sto_chg HC.out _ _ _ (by right; rw [← HN.out]; exact Nat.le_refl _)
      have hB9 : Blk (sto W n 0 Ord.zero) n 73 (oc Ord.zero) := ((((B0.set 0 (.int .i64 0)).set 1 (.int .i64 0)).set 2 (.bool false)).set 3 (.int .u64 0)).set 4 (.int .u64 0)
      have v0 := hB9.at (i := 0) rfl
      have v1 := hB9.at (i := 1) rfl
      have v2 := hB9.at (i := 2) rfl
      have v3 := hB9.at (i := 3) rfl
      have v4 := hB9.at (i := 4) rfl
      clear HK h1 h2
      go_wp2_with fail
      exact bodyPost_ret (v := .tuple #[ov Ord.zero, .bool false]) (by simp [results, Tryz.results170, go_sem, a0, a1, a2, a3, a4]) rfl ⟨by rw [HF.out], hc3⟩
set_option maxRecDepth 100000 in
set_option maxHeartbeats 4000000 in
/-- Remove. -/
theorem rbRemove {w : World} {F : List Nat} {g : Nat} {L M : List Ord} (h : Rbk w F g L M) (iL : Ids L) (iM : Ids M) (id : Int) (zL : L.length ≤ 1000000000000) (zM : M.length ≤ 1000000000000) :
    Calls Tryz.prog 171 #[.pointer (some ⟨g, 0, none⟩), .int .i64 id] w fun e w' => e = .returned (.tuple #[ov (pickB id L M).1, .bool (pickB id L M).2]) ∧ Rbk w' F g (remL id L) (remM id L M) ∧ Chg [g] w w' := by
  have B0 : Blk (w.alloc (.cells #[.int .i64 0, .int .i64 0, .bool false, .int .u64 0, .int .u64 0] 73)) w.heap.size 73 (oc Ord.zero) := Blk.new w (oc Ord.zero) 73
  have c0 : Chg [] w (w.alloc (.cells #[.int .i64 0, .int .i64 0, .bool false, .int .u64 0, .int .u64 0] 73)) := (Chg.refl _ _).alloc _
  have h0 := h.to c0
  have hgl := h.b.lt
  have hfl := h.fr
  have HC := Lib.hid c0
  have HH := Lib.hid h0
  obtain ⟨s1, b1', gd1⟩ := h.b
  obtain ⟨s2, b2', gd2⟩ := h.a
  have sl1 := b1'.sl
  have sl2 := b2'.sl
  have b1 := b1'.chg c0 (by simp) (by simp)
  have b2 := b2'.chg c0 (by simp) (by simp)
  clear h c0 h0 b1' b2'
  go_enter Tryz.func171, Tryz.ntmps171
  go_wp2_with fail
  have hnl := B0.lt
  have a0 := B0.at (i := 0) rfl
  have a1 := B0.at (i := 1) rfl
  have a2 := B0.at (i := 2) rfl
  have a3 := B0.at (i := 3) rfl
  have a4 := B0.at (i := 4) rfl
  have f0 := B0.free 0
  have f1 := B0.free 1
  have f2 := B0.free 2
  have f3 := B0.free 3
  have f4 := B0.free 4
  obtain ⟨n, hn⟩ : ∃ n, w.heap.size = n := ⟨_, rfl⟩
  rw [hn] at B0 hgl hfl hnl sl1 sl2 a0 a1 a2 a3 a4 f0 f1 f2 f3 f4 ⊢
  have HN := Lib.hid hn
  clear hn
  generalize w.alloc _ = W at *
  go_loopw [6] (fun i wr => ∃ k : Nat, k ≤ 2 ∧ i = .int .i64 k ∧ Hid ((1 ≤ k → (pickQ id L).2 = false) ∧ (2 ≤ k → (pickQ id M).2 = false)) ∧ W = wr) (fun i _ => 2 - (intOf i).toNat)
  case atStart => exact ⟨0, by omega, rfl, ⟨fun h => by omega, fun h => by omega⟩, rfl⟩
  case round =>
    obtain ⟨k, hk, rfl, HK, rfl⟩ := hrel
    rcases (by omega : k = 0 ∨ k = 1 ∨ k = 2) with rfl | rfl | rfl
    · have hpre : Hid (1 ≤ 0 → (pickQ id L).2 = false) := fun h => HK.out.1 h
      clear HK
      rcases atQ_pick (k := id) iL with ⟨j, hj, hat, hpk⟩ | ⟨hat, hpk⟩
      · have hat9 := Lib.hid hat
        have HP : Hid (pickQ id L = (L.getD j Ord.zero, true)) := hpk
        obtain ⟨c, r0, r1, r2, -, x0, x1, x2, x3, x4⟩ := b1.at hj
        have hid2 : (L.getD j Ord.zero).id = id := by
          rcases pickQ_spec id L with ⟨-, -, h⟩ | ⟨h, -⟩
          · rw [HP.out] at h; exact h
          · rw [HP.out] at h; simp at h
        have hse := sans_erase iL hj hid2
        have HF : Hid (pickB id L M = (L.getD j Ord.zero, true)) := by show _ = _; unfold pickB; rw [HP.out]; rfl
        have HRL : Hid (remL id L = L.eraseIdx j) := by exact hse
        have HRM : Hid (remM id L M = M) := by show _ = _; unfold remM; rw [HP.out]; rfl
        obtain ⟨x, hx⟩ : ∃ x, L.getD j Ord.zero = x := ⟨_, rfl⟩
        rw [hx] at HF x0 x1 x2 x3 x4
        have HX := Lib.hid hx
        clear hx
        have e1 : (0 : Int) ≤ (j : Int) := by omega
        have e3 : decide ((0 : Int) ≤ (j : Int)) = true := by simp
        go_wp2_with fail
        refine (rSide0 g _).mono ?_
        rintro e w3 ⟨rfl, rfl⟩
        go_wp2_with fail
        refine (rAt_eq b1 iL id zL).mono ?_
        rw [hat9.out]
        rintro e w3 ⟨rfl, rfl⟩
        go_wp2_with fail
        refine (rAt_eq b1 iL id zL).mono ?_
        rw [hat9.out]
        rintro e w3 ⟨rfl, rfl⟩
        go_wp2_with fail
        refine (rDrop b1 hj zL).mono ?_
        rw [HX.out]
        rintro e w4 ⟨rfl, s', hS', c4, bt4, es⟩
        have hng : n ∉ [g] := by simp; omega
        have B4 := B0.chg c4 hng
        have hO := b2.other (o := 0) c4 bt4 hS'.fr (by omega) (by omega) (gd2.imp (fun z => z) fun h => h.1)
        have c5 : Chg [n] w4 (sto w4 n 0 x) := sto_chg (Chg.refl _ _) _ _ _ (by simp)
        have hgood : s1 ≠ g ∧ s1 ∉ F := by
          rcases gd1 with h | h
          · rw [h] at hj; simp at hj
          · exact h
        have hsz := c4.size
        have hsn : s' ≠ n := by rcases es with e | e <;> omega
        have hfin : Rbk (sto w4 n 0 x) F g (remL id L) (remM id L M) := by
          rw [HRL.out, HRM.out]
          have h5 : Sid (sto w4 n 0 x) g 0 s' false (L.eraseIdx j) := hS'.chg c5 (by simp; omega) (by simp; omega)
          have h6 := hO.chgE c5 (by simp; omega) (.inr (by simp; omega))
          have h7 := Rsd.new (w := W) (F := F) (by omega) (fun z hz => by have := hfl z hz; omega) hgood h5 es
          exact ⟨h7, ⟨_, h6, gd2⟩, fun z hz => by have := hfl z hz; have := c5.size; omega, HH.out.ne⟩
        have hcc : Chg [g] w (sto w4 n 0 x) := sto_chg ((HC.out.mono (by simp)).trans c4) _ _ _ (by right; rw [← HN.out]; exact Nat.le_refl _)
        clear a0 a1 a2 a3 a4 f0 f1 f2 f3 f4 B0 b1 b2 hO hS' c4 bt4 hj hpk hat hse hid2 HX x0 x1 x2 x3 x4 r0 r1 r2
        have a0 := B4.at (i := 0) rfl
        have a1 := B4.at (i := 1) rfl
        have a2 := B4.at (i := 2) rfl
        have a3 := B4.at (i := 3) rfl
        have a4 := B4.at (i := 4) rfl
        have f0 := B4.free 0
        have f1 := B4.free 1
        have f2 := B4.free 2
        have f3 := B4.free 3
        have f4 := B4.free 4
        go_wp2_with fail
        exact bodyPost_ret (v := .tuple #[ov x, .bool true]) (by simp [results, Tryz.results171, go_sem, a0, a1, a2, a3, a4]) rfl ⟨by rw [HF.out], hfin, hcc⟩
      · have hat9 := Lib.hid hat
        have HP := Lib.hid hpk
        clear hat hpk
        go_wp2_with fail
        refine (rSide0 g _).mono ?_
        rintro e w3 ⟨rfl, rfl⟩
        go_wp2_with fail
        refine (rAt_eq b1 iL id zL).mono ?_
        rw [hat9.out]
        rintro e w3 ⟨rfl, rfl⟩
        go_wp2_with fail
        go_roundw
        case rel => exact ⟨1, by omega, rfl, ⟨fun _ => by rw [HP.out], fun h => by omega⟩, by trivial⟩
        case measure => simp [intOf]
    · have hpre : Hid (1 ≤ 1 → (pickQ id L).2 = false) := fun h => HK.out.1 h
      clear HK
      rcases atQ_pick (k := id) iM with ⟨j, hj, hat, hpk⟩ | ⟨hat, hpk⟩
      · have hat9 := Lib.hid hat
        have HP : Hid (pickQ id M = (M.getD j Ord.zero, true)) := hpk
        obtain ⟨c, r0, r1, r2, -, x0, x1, x2, x3, x4⟩ := b2.at hj
        have hid2 : (M.getD j Ord.zero).id = id := by
          rcases pickQ_spec id M with ⟨-, -, h⟩ | ⟨h, -⟩
          · rw [HP.out] at h; exact h
          · rw [HP.out] at h; simp at h
        have hse := sans_erase iM hj hid2
        have HF : Hid (pickB id L M = (M.getD j Ord.zero, true)) := by show _ = _; unfold pickB; rw [hpre.out (by omega), if_neg (by simp), HP.out]
        have HRL : Hid (remL id L = L) := by show _ = _; exact sans_none (fun x hx e => by have := hpre.out (by omega); rw [pickQ_yes iL hx e] at this; simp at this)
        have HRM : Hid (remM id L M = M.eraseIdx j) := by show _ = _; unfold remM; rw [hpre.out (by omega)]; simp; exact hse
        obtain ⟨x, hx⟩ : ∃ x, M.getD j Ord.zero = x := ⟨_, rfl⟩
        rw [hx] at HF x0 x1 x2 x3 x4
        have HX := Lib.hid hx
        clear hx
        have e1 : (0 : Int) ≤ (j : Int) := by omega
        have e3 : decide ((0 : Int) ≤ (j : Int)) = true := by simp
        go_wp2_with fail
        refine (rSide2 g _).mono ?_
        rintro e w3 ⟨rfl, rfl⟩
        go_wp2_with fail
        refine (rAt_eq b2 iM id zM).mono ?_
        rw [hat9.out]
        rintro e w3 ⟨rfl, rfl⟩
        go_wp2_with fail
        refine (rAt_eq b2 iM id zM).mono ?_
        rw [hat9.out]
        rintro e w3 ⟨rfl, rfl⟩
        go_wp2_with fail
        refine (rDrop b2 hj zM).mono ?_
        rw [HX.out]
        rintro e w4 ⟨rfl, s', hS', c4, bt4, es⟩
        have hng : n ∉ [g] := by simp; omega
        have B4 := B0.chg c4 hng
        have hO := b1.other (o := 2) c4 bt4 hS'.fr (by omega) (by omega) (gd1.imp (fun z => z) fun h => h.1)
        have c5 : Chg [n] w4 (sto w4 n 0 x) := sto_chg (Chg.refl _ _) _ _ _ (by simp)
        have hgood : s2 ≠ g ∧ s2 ∉ F := by
          rcases gd2 with h | h
          · rw [h] at hj; simp at hj
          · exact h
        have hsz := c4.size
        have hsn : s' ≠ n := by rcases es with e | e <;> omega
        have hfin : Rbk (sto w4 n 0 x) F g (remL id L) (remM id L M) := by
          rw [HRL.out, HRM.out]
          have h5 : Sid (sto w4 n 0 x) g 2 s' true (M.eraseIdx j) := hS'.chg c5 (by simp; omega) (by simp; omega)
          have h6 := hO.chgE c5 (by simp; omega) (.inr (by simp; omega))
          have h7 := Rsd.new (w := W) (F := F) (by omega) (fun z hz => by have := hfl z hz; omega) hgood h5 es
          exact ⟨⟨_, h6, gd1⟩, h7, fun z hz => by have := hfl z hz; have := c5.size; omega, HH.out.ne⟩
        have hcc : Chg [g] w (sto w4 n 0 x) := sto_chg ((HC.out.mono (by simp)).trans c4) _ _ _ (by right; rw [← HN.out]; exact Nat.le_refl _)
        clear a0 a1 a2 a3 a4 f0 f1 f2 f3 f4 B0 b1 b2 hO hS' c4 bt4 hj hpk hat hse hid2 HX x0 x1 x2 x3 x4 r0 r1 r2
        have a0 := B4.at (i := 0) rfl
        have a1 := B4.at (i := 1) rfl
        have a2 := B4.at (i := 2) rfl
        have a3 := B4.at (i := 3) rfl
        have a4 := B4.at (i := 4) rfl
        have f0 := B4.free 0
        have f1 := B4.free 1
        have f2 := B4.free 2
        have f3 := B4.free 3
        have f4 := B4.free 4
        go_wp2_with fail
        exact bodyPost_ret (v := .tuple #[ov x, .bool true]) (by simp [results, Tryz.results171, go_sem, a0, a1, a2, a3, a4]) rfl ⟨by rw [HF.out], hfin, hcc⟩
      · have hat9 := Lib.hid hat
        have HP := Lib.hid hpk
        clear hat hpk
        go_wp2_with fail
        refine (rSide2 g _).mono ?_
        rintro e w3 ⟨rfl, rfl⟩
        go_wp2_with fail
        refine (rAt_eq b2 iM id zM).mono ?_
        rw [hat9.out]
        rintro e w3 ⟨rfl, rfl⟩
        go_wp2_with fail
        go_roundw
        case rel => exact ⟨2, by omega, rfl, ⟨fun _ => hpre.out (by omega), fun _ => by rw [HP.out]⟩, by trivial⟩
        case measure => simp [intOf]
    · have h1 := HK.out.1 (by omega)
      have h2 := HK.out.2 (by omega)
      have HF : Hid (pickB id L M = (Ord.zero, false)) := by
        show _ = _
        rcases pickQ_spec id L with ⟨h, -, -⟩ | ⟨e1, e1'⟩
        · rw [h1] at h; simp at h
        · rcases pickQ_spec id M with ⟨h, -, -⟩ | ⟨e2, e2'⟩
          · rw [h2] at h; simp at h
          · unfold pickB; rw [e1]; simp; exact e2
      have HRL : Hid (remL id L = L) := by
        show _ = _
        rcases pickQ_spec id L with ⟨h, -, -⟩ | ⟨-, e1⟩
        · rw [h1] at h; simp at h
        · exact sans_none e1
      have HRM : Hid (remM id L M = M) := by
        show _ = _
        unfold remM; rw [h1]
        rcases pickQ_spec id M with ⟨h, -, -⟩ | ⟨-, e2⟩
        · rw [h2] at h; simp at h
        · exact sans_none e2
      have c5 : Chg [n] W (sto W n 0 Ord.zero) := sto_chg (Chg.refl _ _) _ _ _ (by simp)
      have hc3 : Chg [] w (sto W n 0 Ord.zero) := sto_chg HC.out _ _ _ (by right; rw [← HN.out]; exact Nat.le_refl _)
      have hB9 : Blk (sto W n 0 Ord.zero) n 73 (oc Ord.zero) := ((((B0.set 0 (.int .i64 0)).set 1 (.int .i64 0)).set 2 (.bool false)).set 3 (.int .u64 0)).set 4 (.int .u64 0)
      have v0 := hB9.at (i := 0) rfl
      have v1 := hB9.at (i := 1) rfl
      have v2 := hB9.at (i := 2) rfl
      have v3 := hB9.at (i := 3) rfl
      have v4 := hB9.at (i := 4) rfl
      have HFIN : Hid (Rbk (sto W n 0 Ord.zero) F g (remL id L) (remM id L M)) := by
        show Rbk _ _ _ _ _
        rw [HRL.out, HRM.out]
        have hz := c5.size
        exact ⟨⟨_, b1.chgE c5 (by simp; omega) (.inr (by simp; omega)), gd1⟩, ⟨_, b2.chgE c5 (by simp; omega) (.inr (by simp; omega)), gd2⟩, fun z hz => by have := hfl z hz; omega, HH.out.ne⟩
      clear HK h1 h2
      go_wp2_with fail
      exact bodyPost_ret (v := .tuple #[ov Ord.zero, .bool false]) (by simp [results, Tryz.results171, go_sem, a0, a1, a2, a3, a4]) rfl ⟨by rw [HF.out], HFIN.out, hc3.mono (by simp)⟩
end Go.Proofs.YteabcpmpcbjicaaGreat

namespace Go.Proofs.YteabcpmpcbjicaaGreat
set_option linter.unusedVariables false
open Go Go.Proofs Go.RowKit
attribute [local go_sem ↓] Go.wp_at_zero Go.wp_at_succ

/-- A round's state in memory. -/
structure RSt (w : World) (F : List Nat) (n g oo s : Nat) (up : Bool) (oi ol : Int) (ob : Bool) (op : Int) (wr : World) (v : Value) (T : List Trd) (q : Int) (Q : List Ord) : Prop where
  own : wr.ownsRow (n + 1) 99 6 v T.length (flat tc T)
  box : Blk wr n 73 (oc ⟨oi, ol, ob, op, q⟩)
  sd : Sid wr g oo s up Q
  gd : Q = [] ∨ (s ≠ g ∧ s ∉ F ∧ s ≠ n)
  chg : Chg [g] w wr
  but : But g (oo + 1) w wr
  ne : g < n ∧ w.heap.size = n ∧ ∀ x ∈ F, x < n
theorem But.chg {g j : Nat} {w w' : World} {S : List Nat} (k : Chg S w w') (hg : g < w.heap.size) (hs : g ∉ S) : But g j w w' := But.same (k.block g hg hs)
theorem RSt.to {w : World} {F : List Nat} {n g oo s : Nat} {up : Bool} {oi ol : Int} {ob : Bool} {op : Int} {wr w' : World} {v : Value} {T : List Trd} {q : Int} {Q : List Ord} (h : RSt w F n g oo s up oi ol ob op wr v T q Q) (c : Chg [] wr w') : RSt w F n g oo s up oi ol ob op w' v T q Q :=
  ⟨own_chg h.own c (by simp), h.box.chg c (by simp), h.sd.chg c (by simp) (by simp), h.gd, h.chg.trans (c.mono (by simp)), h.but.trans (But.chg c h.sd.lt (by simp)), h.ne⟩
theorem own_ne {w : World} {base n m : Nat} {v : Value} {xs : List Value} {g o s : Nat} {up : Bool} {L : List Ord} (h : w.ownsRow base 99 n v m xs) (hs : Sid w g o s up L) (hL : L ≠ []) : v.ownBlock ≠ some s := by
  intro hk
  rcases h.2 with ⟨rfl, _⟩ | ⟨k, c, cur, rfl, _, e, _⟩
  · simp [Value.ownBlock] at hk
  · simp [Value.ownBlock] at hk
    subst hk
    obtain ⟨a, c', r1, r2, r3, r4⟩ := hs.row
    obtain ⟨_, sp, hb⟩ := r4.resolve_left hL
    have hb' : w.heap[k]? = some (.cells (ocs L ++ sp).toArray 73 (0, 0)) := hb
    rw [e] at hb'
    simp at hb'
theorem RSt.grown {w : World} {F : List Nat} {n g oo s : Nat} {up : Bool} {oi ol : Int} {ob : Bool} {op : Int} {wr w' : World} {v v' : Value} {T T' : List Trd} {q : Int} {Q : List Ord} (h : RSt w F n g oo s up oi ol ob op wr v T q Q) (hg : wr.grownBy w' v.ownBlock)
    (ho : w'.ownsRow (n + 1) 99 6 v' T'.length (flat tc T')) : RSt w F n g oo s up oi ol ob op w' v' T' q Q := by
  have hb := own_base h.own
  obtain ⟨n1, n2, n3⟩ := h.ne
  have cc : Chg (match v.ownBlock with | some k => [k] | none => []) wr w' := (Chg.refl _ wr).grown hg (fun k hk => by rw [hk]; simp)
  have hm : ∀ x, x ≤ n → x ∉ (match v.ownBlock with | some k => [k] | none => []) := fun x hx => by
    cases e : v.ownBlock with
    | none => simp
    | some k => have := hb k e; simp; omega
  have hs : Q = [] ∨ s ∉ (match v.ownBlock with | some k => [k] | none => []) := by
    by_cases hQ : Q = []
    · exact .inl hQ
    · right
      have := own_ne h.own h.sd hQ
      cases e : v.ownBlock with
      | none => simp
      | some k => rw [e] at this; simp; intro e2; exact this (by rw [e2])
  exact ⟨ho, h.box.chg cc (hm n (by omega)), h.sd.chgE cc (hm _ (by omega)) hs, h.gd, h.chg.grown hg (fun k hk => .inr (by have := hb k hk; omega)), h.but.trans (But.chg cc h.sd.lt (hm _ (by omega))), h.ne⟩
theorem RSt.store {w : World} {F : List Nat} {n g oo s : Nat} {up : Bool} {oi ol : Int} {ob : Bool} {op : Int} {wr : World} {v : Value} {T : List Trd} {q : Int} {Q : List Ord} (h : RSt w F n g oo s up oi ol ob op wr v T q Q) (q' : Int) : RSt w F n g oo s up oi ol ob op (wr.setCell ⟨n, 4, none⟩ (.int .u64 q')) v T q' Q := by
  obtain ⟨n1, n2, n3⟩ := h.ne
  have c : Chg [n] wr (wr.setCell ⟨n, 4, none⟩ (.int .u64 q')) := (Chg.refl _ _).setCell _ _ (by simp)
  exact ⟨own_chg h.own c (by simp), h.box.set 4 _, h.sd.chgE c (by simp; omega) (h.gd.imp (fun z => z) fun z => by simp; exact z.2.2), h.gd, h.chg.setCell _ _ (.inr (by show _ ≤ n; omega)), h.but.trans (But.chg c h.sd.lt (by simp; omega)), h.ne⟩
theorem RSt.cut {w : World} {F : List Nat} {n g oo s s' : Nat} {up : Bool} {oi ol : Int} {ob : Bool} {op : Int} {wr w' : World} {v : Value} {T : List Trd} {q : Int} {Q Q' : List Ord} (h : RSt w F n g oo s up oi ol ob op wr v T q Q) (hQ : Q ≠ []) (hq : Sid w' g oo s' up Q') (c : Chg [g] wr w') (b : But g (oo + 1) wr w') (e : s' = s ∨ wr.heap.size ≤ s') : RSt w F n g oo s' up oi ol ob op w' v T q Q' := by
  obtain ⟨n1, n2, n3⟩ := h.ne
  have hl := h.box.lt
  refine ⟨own_chg h.own c (by simp; omega), h.box.chg c (by simp; omega), hq, .inr ?_, h.chg.trans c, h.but.trans b, h.ne⟩
  rcases e with rfl | e
  · exact h.gd.resolve_left hQ
  · exact ⟨by omega, fun hm => by have := n3 _ hm; omega, by omega⟩
theorem RSt.rsd {w : World} {F : List Nat} {n g oo s : Nat} {up : Bool} {oi ol : Int} {ob : Bool} {op : Int} {wr : World} {v : Value} {T : List Trd} {q : Int} {Q : List Ord} (h : RSt w F n g oo s up oi ol ob op wr v T q Q) : Rsd wr F g oo up Q := ⟨s, h.sd, h.gd.imp (fun z => z) fun z => ⟨z.1, z.2.1⟩⟩

theorem RSt.tset {w : World} {F : List Nat} {n g oo s gt : Nat} {up : Bool} {oi ol : Int} {ob : Bool} {op : Int} {wr : World} {v : Value} {T : List Trd} {q : Int} {Q : List Ord} {cs : List Value} (h : RSt w F n g oo s up oi ol ob op wr v T q Q) (i : Nat) (u : Value) (hn : n < gt) (hb : Blk wr gt 99 cs) (hog : ∀ k, v.ownBlock = some k → k < gt) : RSt w F n g oo s up oi ol ob op (wr.setCell ⟨gt, i, none⟩ u) v T q Q := by
  obtain ⟨n1, n2, n3⟩ := h.ne
  have c : Chg [gt] wr (wr.setCell ⟨gt, i, none⟩ u) := (Chg.refl _ _).setCell _ _ (by simp)
  have hs : Q = [] ∨ s ≠ gt := by
    by_cases hQ : Q = []
    · exact .inl hQ
    · right
      rintro rfl
      obtain ⟨a, c', r1, r2, r3, r4⟩ := h.sd.row
      obtain ⟨_, sp, hb2⟩ := r4.resolve_left hQ
      have e1 : wr.heap[s]? = some (.cells (ocs Q ++ sp).toArray 73 (0, 0)) := hb2
      have e2 : wr.heap[s]? = some (.cells cs.toArray 99 (0, 0)) := hb
      rw [e1] at e2
      simp at e2
  have ho : (wr.setCell ⟨gt, i, none⟩ u).ownsRow (n + 1) 99 6 v T.length (flat tc T) := by
    refine ⟨h.own.1, ?_⟩
    rcases h.own.2 with h1 | ⟨k, cap, cur, rfl, e2, e3, e4⟩
    · exact .inl h1
    · exact .inr ⟨k, cap, cur, rfl, e2, (c.block k (Array.getElem?_eq_some_iff.1 e3).1 (by simp; have := hog k rfl; omega)).trans e3, e4⟩
  exact ⟨ho, h.box.chg c (by simp; omega), h.sd.chgE c (by simp; omega) (hs.imp (fun z => z) fun z => by simp; exact z), h.gd, h.chg.setCell _ _ (.inr (by show _ ≤ gt; omega)), h.but.trans (But.chg c h.sd.lt (by simp; omega)), h.ne⟩

set_option maxRecDepth 100000 in
set_option maxHeartbeats 8000000 in
theorem rbMatchT {w : World} {F : List Nat} {g : Nat} {L M : List Ord} (h : Rbk w F g L M) (oi ol op oq : Int) (ho : (⟨oi, ol, true, op, oq⟩ : Ord).Ok) (hok : ∀ x ∈ M, x.Ok) (zQ : M.length < 999999999) :
    Calls Tryz.prog 172 #[.pointer (some ⟨g, 0, none⟩), ov ⟨oi, ol, true, op, oq⟩] w fun e w' => ∃ a c, e = .returned (.tuple #[.slice a (mres ⟨oi, ol, true, op, oq⟩ L M).1.length c, .int .u64 (mres ⟨oi, ol, true, op, oq⟩ L M).2.1]) ∧ NewF tc w' w.heap.size 99 a (mres ⟨oi, ol, true, op, oq⟩ L M).1 ∧ Rbk w' F g (mL ⟨oi, ol, true, op, oq⟩ L M) (mM ⟨oi, ol, true, op, oq⟩ L M) ∧ Chg [g] w w' := by
  obtain ⟨i0, hi, iz0, iz1, iz2⟩ := info_parts info_trd
  have HB : Hid (∀ (w' : World) Q', Rsd w' F g 2 true Q' → Chg [g] w w' → But g 3 w w' → Rbk w' F g L Q') := fun w' Q' hq c b =>
    ⟨h.b.other c b (hq.elim fun _ h => h.1.fr) (by omega) (by omega), hq, fun x hx => Nat.lt_of_lt_of_le (h.fr x hx) c.size, h.ne⟩
  obtain ⟨s0, hs0, gd0⟩ := h.a
  have hfl := h.fr
  have hgl := h.b.lt
  have hsl := hs0.sl
  have HO := Lib.hid ho
  obtain ⟨u1, u2⟩ := ho.qty
  obtain ⟨u3, u4⟩ := ho.price
  dsimp only at u1 u2 u3 u4
  obtain ⟨Q0, hQ0⟩ : ∃ Q, M = Q := ⟨_, rfl⟩
  have HR : Hid (mres ⟨oi, ol, true, op, oq⟩ L M = mch ⟨oi, ol, true, op, oq⟩ oq Q0) := by show _ = _; rw [← hQ0]; rfl
  rw [hQ0] at hs0 gd0 hok zQ
  have HI : Hid (MchIs ⟨oi, ol, true, op, oq⟩ oq Q0 [] oq Q0) := MchIs.start _ _ _
  have hOK0 := Lib.hid hok
  have b1 := Blk.new w (oc ⟨oi, ol, true, op, oq⟩) 73
  have c1 := (Chg.refl [] w).alloc (.cells #[.int .i64 oi, .int .i64 ol, .bool true, .int .u64 op, .int .u64 oq] 73)
  clear hQ0 ho h hok
  go_enter Tryz.func172, Tryz.ntmps172
  have B1 : Blk (w.alloc (.cells #[.int .i64 oi, .int .i64 ol, .bool true, .int .u64 op, .int .u64 oq] 73)) w.heap.size 73 (oc ⟨oi, ol, true, op, oq⟩) := b1
  have z2 := B1.at (i := 2) rfl
  clear b1
  go_upto_region 1 with (fail)
  obtain ⟨n, hg⟩ : ∃ g, w.heap.size = g := ⟨_, rfl⟩
  rw [hg] at B1 hgl hsl hfl z2 ⊢
  have HG := Lib.hid hg
  clear hg
  have hS0 : RSt w F n g 2 s0 true oi ol true op (w.alloc (.cells #[.int .i64 oi, .int .i64 ol, .bool true, .int .u64 op, .int .u64 oq] 73)) (.slice none 0 0) [] oq Q0 :=
    ⟨World.ownsRow_nil _ _ _ _, B1, hs0.chg c1 (by simp) (by simp), gd0.imp (fun z => z) fun z => ⟨z.1, z.2, by omega⟩, c1.mono (by simp), But.chg c1 (by rw [HG.out]; exact hgl) (by simp), hgl, HG.out, hfl⟩
  clear B1 c1 hs0 gd0
  generalize w.alloc _ = W0 at *
  go_wp2_with fail
  refine (rSide2 g _).mono ?_
  rintro e w3 ⟨rfl, rfl⟩
  go_wp2_with fail
  clear z2
  go_loopg [7] (2 * Q0.length + 1) (fun k v wr => ∃ (T : List Trd) (q : Int) (Q : List Ord) (s : Nat), RSt w F n g 2 s true oi ol true op wr v T q Q ∧ Hid (MchIs ⟨oi, ol, true, op, oq⟩ oq Q0 T q Q) ∧ 0 ≤ q ∧ q ≤ oq ∧ Q.length ≤ Q0.length ∧ Hid (∀ z ∈ Q, z.Ok) ∧ Hid (2 * Q.length + (if 0 < q then 1 else 0) ≤ k))
  case atStart => exact ⟨[], oq, Q0, s0, hS0, HI, u1, Int.le_refl _, Nat.le_refl _, hOK0, by show _ ≤ _; split <;> omega⟩
  case round =>
    clear hS0 HI hOK0
    obtain ⟨T, q, Q, s, hS, hI, q1, q2, q3, HOK, hn⟩ := hrel
    have hTl := hI.out.len
    by_cases h0 : 0 < q
    · have d0 : decide (0 < q) = true := by simp; omega
      cases Q with
      | nil =>
        have h4 := hS.box.at (i := 4) rfl
        obtain ⟨a8, c8, r1, -, -, -⟩ := hS.sd.row
        simp only [List.length_nil] at r1
        have HF := Lib.hid hI.out.nil
        clear hI
        have z4 := hS.box.at (i := 4) rfl
        have HST := Lib.hid hS
        obtain ⟨a, cap, rfl, hN⟩ := own_new HST.out.own
        have HNN := Lib.hid hN
        clear hN hS
        go_wp2_with fail
        go_quiet (fail)
        go_wp2_with fail
        have hfin : mres ⟨oi, ol, true, op, oq⟩ L M = (T, q, []) := HR.out.trans HF.out
        have hret : Ending.returned (.tuple #[.slice a T.length cap, .int .u64 q]) = Ending.returned (.tuple #[.slice a (mres ⟨oi, ol, true, op, oq⟩ L M).1.length cap, .int .u64 (mres ⟨oi, ol, true, op, oq⟩ L M).2.1]) := by rw [hfin]
        have hS9 := HST.out.to ((Chg.refl [] _).drewN nq)
        have hpost : NewF tc (wr.drewN nq) w.heap.size 99 a (mres ⟨oi, ol, true, op, oq⟩ L M).1 ∧ Rbk (wr.drewN nq) F g (mL ⟨oi, ol, true, op, oq⟩ L M) (mM ⟨oi, ol, true, op, oq⟩ L M) ∧ Chg [g] w (wr.drewN nq) := by
          refine ⟨by rw [hfin, HG.out]; exact (HNN.out.mono (Nat.le_succ n)).chg0 ((Chg.refl [] _).drewN nq), ?_, hS9.chg⟩
          have hm1 : mL ⟨oi, ol, true, op, oq⟩ L M = L := by rfl
          have hm2 : mM ⟨oi, ol, true, op, oq⟩ L M = [] := by unfold mM; rw [hfin]; rfl
          rw [hm1, hm2]
          exact HB.out _ _ hS9.rsd hS9.chg hS9.but
        go_ret2
        exact ⟨a, cap, hret, hpost⟩

      | cons x Q =>
        have h4 := hS.box.at (i := 4) rfl
        obtain ⟨c8, r1, -, -, -, x0, x1, x2, x3, x4⟩ := hS.sd.at (k := 0) (by simp)
        simp only [Nat.zero_mul, Nat.zero_add] at x0 x1 x2 x3 x4
        have x0' : wr.cell? ⟨s, 0, none⟩ = some (.int .i64 x.id) := x0
        have x1' : wr.cell? ⟨s, 1, none⟩ = some (.int .i64 x.client) := x1
        have x2' : wr.cell? ⟨s, 2, none⟩ = some (.bool x.buy) := x2
        have x3' : wr.cell? ⟨s, 3, none⟩ = some (.int .u64 x.price) := x3
        have x4' : wr.cell? ⟨s, 4, none⟩ = some (.int .u64 x.qty) := x4
        clear x0 x1 x2 x3 x4
        obtain ⟨nQ, hnQ⟩ : ∃ m, (x :: Q).length = m := ⟨_, rfl⟩
        have nQ1 : 0 < nQ := by rw [← hnQ]; simp
        have nQ2 : (0 : Int) < (nQ : Int) := by omega
        have nQ3 : decide (0 < nQ) = true := by simp; omega
        have nQ4 : decide ((0 : Int) < (nQ : Int)) = true := by simp; omega
        have r1' : wr.cell? ⟨g, 3, none⟩ = some (.slice (some ⟨s, 0, none⟩) nQ c8) := by rw [← hnQ]; exact r1
        have q3' : nQ ≤ Q0.length := by rw [← hnQ]; exact q3
        have HNQ := Lib.hid hnQ
        have hx := HOK.out x (by simp)
        obtain ⟨k1, k2⟩ := hx.qty
        clear r1 hnQ hx
        have c2b := (Chg.refl [] wr).alloc (.cells #[.int .i64 x.id, .int .i64 x.client, .bool x.buy, .int .u64 x.price, .int .u64 x.qty] 73)
        have hBX : Blk (wr.alloc (.cells #[.int .i64 x.id, .int .i64 x.client, .bool x.buy, .int .u64 x.price, .int .u64 x.qty] 73)) wr.heap.size 73 (oc x) := Blk.new wr (oc x) 73
        have hS2 := hS.to c2b
        have hgx : n < wr.heap.size := hS.box.lt
        clear hS c2b
        go_upto_region 5 with (fail)
        clear h4 r1' x0' x1' x2' x3' x4'
        generalize wr.heap.size = gx at *
        generalize wr.alloc _ = W2 at *
        have b0 := hS2.box.at (i := 0) rfl
        have b1 := hS2.box.at (i := 1) rfl
        have b2 := hS2.box.at (i := 2) rfl
        have b3 := hS2.box.at (i := 3) rfl
        have b4 := hS2.box.at (i := 4) rfl
        have y0 := hBX.at (i := 0) rfl
        have y1 := hBX.at (i := 1) rfl
        have y2 := hBX.at (i := 2) rfl
        have y3 := hBX.at (i := 3) rfl
        have y4 := hBX.at (i := 4) rfl
        cases hmt : meet ⟨oi, ol, true, op, oq⟩ x with
        | false =>
          have HMT := Lib.hid hmt
          have HF := Lib.hid (hI.out.no hmt)
          have dp : decide (op < x.price) = true := by
            have : decide (x.price ≤ op) = false := hmt
            simp at this ⊢; omega
          clear hI hmt
          have hS := hS2.to (Chg.refl [] W2)
          clear hS2 hBX
          go_upto_region 14 with (fail)
          clear b0 b1 b2 b3 b4 y0 y1 y2 y3 y4
          generalize hWR : W2 = wr2 at *
          have z4 := hS.box.at (i := 4) rfl
          have HST := Lib.hid hS
          obtain ⟨a, cap, rfl, hN⟩ := own_new HST.out.own
          have HNN := Lib.hid hN
          clear hN hS
          go_wp2_with fail
          go_quiet (fail)
          go_wp2_with fail
          have hfin : mres ⟨oi, ol, true, op, oq⟩ L M = (T, q, (x :: Q)) := HR.out.trans HF.out
          have hret : Ending.returned (.tuple #[.slice a T.length cap, .int .u64 q]) = Ending.returned (.tuple #[.slice a (mres ⟨oi, ol, true, op, oq⟩ L M).1.length cap, .int .u64 (mres ⟨oi, ol, true, op, oq⟩ L M).2.1]) := by rw [hfin]
          have hS9 := HST.out.to ((Chg.refl [] _).drewN nq)
          have hpost : NewF tc (wr2.drewN nq) w.heap.size 99 a (mres ⟨oi, ol, true, op, oq⟩ L M).1 ∧ Rbk (wr2.drewN nq) F g (mL ⟨oi, ol, true, op, oq⟩ L M) (mM ⟨oi, ol, true, op, oq⟩ L M) ∧ Chg [g] w (wr2.drewN nq) := by
            refine ⟨by rw [hfin, HG.out]; exact (HNN.out.mono (Nat.le_succ n)).chg0 ((Chg.refl [] _).drewN nq), ?_, hS9.chg⟩
            have hm1 : mL ⟨oi, ol, true, op, oq⟩ L M = L := by rfl
            have hm2 : mM ⟨oi, ol, true, op, oq⟩ L M = (x :: Q) := by unfold mM; rw [hfin]; rfl
            rw [hm1, hm2]
            exact HB.out _ _ hS9.rsd hS9.chg hS9.but
          go_ret2
          exact ⟨a, cap, hret, hpost⟩

        | true =>
          have HMT := Lib.hid hmt
          have dp : decide (op < x.price) = false := by
            have : decide (x.price ≤ op) = true := hmt
            simp at this ⊢; omega
          clear hmt
          rcases (by omega : q < x.qty ∨ q = x.qty ∨ x.qty < q) with hlt | rfl | hgt
          · have HI2 := Lib.hid (hI.out.part h0 HMT.out hlt)
            clear hI
            obtain ⟨t, ht⟩ : ∃ t, trd ⟨oi, ol, true, op, oq⟩ x q = t := ⟨_, rfl⟩
            have HT := Lib.hid ht
            have t5 : t.qty = q := by rw [← ht]; rfl
            have HTQ := Lib.hid t5
            have hcB : Chg [] W2 ((W2).alloc (.cells #[.int .i64 x.id, .int .i64 oi, .int .i64 ol, .int .i64 x.client, .int .u64 x.price, .int .u64 q] 99)) := (Chg.refl _ _).alloc _
            have hBT0 : Blk ((W2).alloc (.cells #[.int .i64 x.id, .int .i64 oi, .int .i64 ol, .int .i64 x.client, .int .u64 x.price, .int .u64 q] 99)) W2.heap.size 99 [.int .i64 x.id, .int .i64 oi, .int .i64 ol, .int .i64 x.client, .int .u64 x.price, .int .u64 q] := Blk.new W2 _ _
            have hS3 := hS2.to hcB
            have HOG := Lib.hid fun k hk => (hS2.own.lt k hk).2
            have hgt1 : n < W2.heap.size := hS2.box.lt
            have hgt2 := hBX.lt
            clear ht t5 hcB
            have hBT : Blk ((W2).alloc (.cells #[.int .i64 x.id, .int .i64 oi, .int .i64 ol, .int .i64 x.client, .int .u64 x.price, .int .u64 q] 99)) W2.heap.size 99 (tc t) := by rw [← HT.out]; exact hBT0
            clear hBT0 hS2
            go_upto_region 9 with (fail)
            clear b0 b1 b2 b3 b4 y0 y1 y2 y3 y4 hBX
            generalize W2.heap.size = gt at *
            generalize W2.alloc _ = W4 at *
            have t0 := hBT.at (i := 0) rfl
            have t1 := hBT.at (i := 1) rfl
            have t2 := hBT.at (i := 2) rfl
            have t3 := hBT.at (i := 3) rfl
            have t4 := hBT.at (i := 4) rfl
            have t5 := hBT.at (i := 5) rfl
            have hown := hS3.own
            go_wp2_with (at_builtin; refine wpList_append_own _ rfl (.tmp 78) (.tmp 80) 44 rfl (n + 1) 99 i0 (tv Trd.zero) 6 48 Tryz.underlying44 hi iz0 iz1 iz2 rfl (by decide) _ _ _ rfl (hown.alloc _) ⟨W4.heap.size, 0, none⟩ 1 1 (tc t) rfl rfl ?c1 ?c2 ?c3 ?c4 ?c5 ?_)
            case c1 => first | exact news_new W4 _ _ | exact (fun _ _ h => h) | (intro j u h; simpa using h)
            case c2 => simp [tc, Value.oneCell']
            case c3 => unfold maxLen; omega
            case c4 => omega
            case c5 => have := hS3.box.lt; simp; omega
            intro v' w5 hown1 hg1 _
            rw [← flat_snoc] at hown1
            have c5 := (Chg.refl [] W4).alloc (.cells #[.int .i64 t.maker, .int .i64 t.taker, .int .i64 t.buyer, .int .i64 t.seller, .int .u64 t.price, .int .u64 t.qty] 99)
            have hB5 : Blk w5 gt 99 (tc t) := (hBT.chg c5 (by simp)).grown hg1 (fun e => by have := HOG.out _ e; omega)
            have hS5 : RSt w F n g 2 s true oi ol true op w5 v' (T ++ [t]) q (x :: Q) := (hS3.to c5).grown hg1 (by simpa using hown1)
            clear hS3 hBT hown hown1 hg1 c5 t0 t1 t2 t3 t4 t5
            have b4 := hS5.box.at (i := 4) rfl
            have f4 := hS5.box.free 4
            have t5 : w5.cell? ⟨gt, 5, none⟩ = some (.int .u64 q) := by rw [← HTQ.out]; exact hB5.at (i := 5) rfl
            have HI3 : Hid (MchIs ⟨oi, ol, true, op, oq⟩ oq Q0 (T ++ [t]) 0 ({ x with qty := x.qty - q } :: Q)) := by have := HI2.out; rw [HT.out] at this; exact this
            have hS6 := hS5.store 0
            have hB6 := hB5.put ⟨n, 4, none⟩ (.int .u64 0) (by show gt ≠ n; omega)
            have hokx := HOK.out x (by simp)
            have HOKQ : Hid (∀ z ∈ (x :: Q), z.Ok) := HOK.out
            obtain ⟨qx1, qx2⟩ := hokx.qty
            clear hS5 hB5 HI2 hokx
            go_upto_region 11 with (fail)
            clear b4 f4 t5
            generalize w5.setCell _ _ = W6 at *
            have t5 : W6.cell? ⟨gt, 5, none⟩ = some (.int .u64 q) := by rw [← HTQ.out]; exact hB6.at (i := 5) rfl
            go_wp2_with fail
            refine (rCut hS6.sd q ⟨by omega, by omega⟩ HOKQ.out (by rw [HNQ.out]; omega)).mono ?_
            rw [cutQ_cons, if_pos (by omega)]
            rintro e w7 ⟨rfl, s7, hq7, c7, b7, e7⟩
            have hS7 := hS6.cut (by simp) hq7 c7 b7 e7
            clear hS6 hB6 hq7 c7 b7 e7 t5
            obtain ⟨c9, r1, -, -, -, x0, x1, x2, x3, x4⟩ := hS7.sd.at (k := 0) (by simp)
            simp only [Nat.zero_mul, Nat.zero_add] at x0 x1 x2 x3 x4
            have x4' : w7.cell? ⟨s7, 4, none⟩ = some (.int .u64 (x.qty - q)) := by simpa using x4
            have r1' : w7.cell? ⟨g, 3, none⟩ = some (.slice (some ⟨s7, 0, none⟩) nQ c9) := by rw [← HNQ.out]; exact r1
            clear x0 x1 x2 x3 x4 r1
            have hne : (x.qty - q == 0) = false := beq_eq_false_iff_ne.2 (by omega)
            have hne2 : decide (x.qty - q = 0) = false := by simp; omega
            have hok9 : Hid (∀ z ∈ ({ x with qty := x.qty - q } :: Q : List Ord), z.Ok) := by
              intro z hz
              rcases List.mem_cons.1 hz with rfl | hz
              · have h1 := HOKQ.out x (by simp)
                exact ⟨h1.id, h1.client, h1.price, ⟨by show 0 ≤ x.qty - q; omega, by show x.qty - q < _; omega⟩⟩
              · exact HOKQ.out z (by simp [hz])
            go_wp2_with fail
            go_roundg (gk - 1)
            case measure => have := hn.out; simp at this; omega
            case rel => exact ⟨T ++ [t], 0, _, _, hS7, HI3, by omega, by omega, by simpa using q3, hok9, by have := hn.out; rw [if_pos h0] at this; show _ ≤ _; simp at this ⊢; omega⟩
          · have HI2 := Lib.hid (hI.out.all h0 HMT.out (by omega))
            clear hI
            obtain ⟨t, ht⟩ : ∃ t, trd ⟨oi, ol, true, op, oq⟩ x x.qty = t := ⟨_, rfl⟩
            have HT := Lib.hid ht
            have t5 : t.qty = x.qty := by rw [← ht]; rfl
            have HTQ := Lib.hid t5
            have hcB : Chg [] W2 ((W2).alloc (.cells #[.int .i64 x.id, .int .i64 oi, .int .i64 ol, .int .i64 x.client, .int .u64 x.price, .int .u64 x.qty] 99)) := (Chg.refl _ _).alloc _
            have hBT0 : Blk ((W2).alloc (.cells #[.int .i64 x.id, .int .i64 oi, .int .i64 ol, .int .i64 x.client, .int .u64 x.price, .int .u64 x.qty] 99)) W2.heap.size 99 [.int .i64 x.id, .int .i64 oi, .int .i64 ol, .int .i64 x.client, .int .u64 x.price, .int .u64 x.qty] := Blk.new W2 _ _
            have hS3 := hS2.to hcB
            have HOG := Lib.hid fun k hk => (hS2.own.lt k hk).2
            have hgt1 : n < W2.heap.size := hS2.box.lt
            have hgt2 := hBX.lt
            clear ht t5 hcB
            have hBT : Blk ((W2).alloc (.cells #[.int .i64 x.id, .int .i64 oi, .int .i64 ol, .int .i64 x.client, .int .u64 x.price, .int .u64 x.qty] 99)) W2.heap.size 99 (tc t) := by rw [← HT.out]; exact hBT0
            clear hBT0 hS2
            go_upto_region 9 with (fail)
            clear b0 b1 b2 b3 b4 y0 y1 y2 y3 y4 hBX
            generalize W2.heap.size = gt at *
            generalize W2.alloc _ = W4 at *
            have t0 := hBT.at (i := 0) rfl
            have t1 := hBT.at (i := 1) rfl
            have t2 := hBT.at (i := 2) rfl
            have t3 := hBT.at (i := 3) rfl
            have t4 := hBT.at (i := 4) rfl
            have t5 := hBT.at (i := 5) rfl
            have hown := hS3.own
            go_wp2_with (at_builtin; refine wpList_append_own _ rfl (.tmp 78) (.tmp 80) 44 rfl (n + 1) 99 i0 (tv Trd.zero) 6 48 Tryz.underlying44 hi iz0 iz1 iz2 rfl (by decide) _ _ _ rfl (hown.alloc _) ⟨W4.heap.size, 0, none⟩ 1 1 (tc t) rfl rfl ?c1 ?c2 ?c3 ?c4 ?c5 ?_)
            case c1 => first | exact news_new W4 _ _ | exact (fun _ _ h => h) | (intro j u h; simpa using h)
            case c2 => simp [tc, Value.oneCell']
            case c3 => unfold maxLen; omega
            case c4 => omega
            case c5 => have := hS3.box.lt; simp; omega
            intro v' w5 hown1 hg1 _
            rw [← flat_snoc] at hown1
            have c5 := (Chg.refl [] W4).alloc (.cells #[.int .i64 t.maker, .int .i64 t.taker, .int .i64 t.buyer, .int .i64 t.seller, .int .u64 t.price, .int .u64 t.qty] 99)
            have hB5 : Blk w5 gt 99 (tc t) := (hBT.chg c5 (by simp)).grown hg1 (fun e => by have := HOG.out _ e; omega)
            have hS5 : RSt w F n g 2 s true oi ol true op w5 v' (T ++ [t]) x.qty (x :: Q) := (hS3.to c5).grown hg1 (by simpa using hown1)
            clear hS3 hBT hown hown1 hg1 c5 t0 t1 t2 t3 t4 t5
            have b4 := hS5.box.at (i := 4) rfl
            have f4 := hS5.box.free 4
            have t5 : w5.cell? ⟨gt, 5, none⟩ = some (.int .u64 x.qty) := by rw [← HTQ.out]; exact hB5.at (i := 5) rfl
            have HI3 : Hid (MchIs ⟨oi, ol, true, op, oq⟩ oq Q0 (T ++ [t]) 0 Q) := by have := HI2.out; rw [HT.out] at this; rwa [Int.sub_self] at this
            have hS6 := hS5.store 0
            have hB6 := hB5.put ⟨n, 4, none⟩ (.int .u64 0) (by show gt ≠ n; omega)
            have hokx := HOK.out x (by simp)
            have HOKQ : Hid (∀ z ∈ (x :: Q), z.Ok) := HOK.out
            obtain ⟨qx1, qx2⟩ := hokx.qty
            clear hS5 hB5 HI2 hokx
            go_upto_region 11 with (fail)
            clear b4 f4 t5
            generalize w5.setCell _ _ = W6 at *
            have t5 : W6.cell? ⟨gt, 5, none⟩ = some (.int .u64 x.qty) := by rw [← HTQ.out]; exact hB6.at (i := 5) rfl
            go_wp2_with fail
            refine (rCut hS6.sd x.qty ⟨by omega, by omega⟩ HOKQ.out (by rw [HNQ.out]; omega)).mono ?_
            rw [cutQ_cons, if_pos (by omega)]
            rintro e w7 ⟨rfl, s7, hq7, c7, b7, e7⟩
            have hS7 := hS6.cut (by simp) hq7 c7 b7 e7
            clear hS6 hB6 hq7 c7 b7 e7 t5
            obtain ⟨c9, r1, -, -, -, x0, x1, x2, x3, x4⟩ := hS7.sd.at (k := 0) (by simp)
            simp only [Nat.zero_mul, Nat.zero_add] at x0 x1 x2 x3 x4
            have x4' : w7.cell? ⟨s7, 4, none⟩ = some (.int .u64 (0)) := by simpa using x4
            have r1' : w7.cell? ⟨g, 3, none⟩ = some (.slice (some ⟨s7, 0, none⟩) nQ c9) := by rw [← HNQ.out]; exact r1
            clear x0 x1 x2 x3 x4 r1
            go_wp2_with fail
            refine (rDrop hS7.sd (i := 0) (by simp) (by simp; simp at q3; omega)).mono ?_
            rintro e w8 ⟨rfl, s8, hq8, c8, b8, e8⟩
            have hS8 := hS7.cut (by simp) hq8 c8 b8 e8
            rw [erase_zero] at hS8
            clear hS7 hq8 c8 b8 e8 x4' r1'
            have hok9 : Hid (∀ z ∈ Q, z.Ok) := fun z hz => HOKQ.out z (by simp [hz])
            go_wp2_with fail
            go_roundg (gk - 1)
            case measure => have := hn.out; simp at this; omega
            case rel => exact ⟨T ++ [t], 0, Q, _, hS8, HI3, by omega, by omega, by simp at q3; omega, hok9, by have := hn.out; rw [if_pos h0] at this; show _ ≤ _; simp at this ⊢; (first | omega | (split <;> omega))⟩
          · have HI2 := Lib.hid (hI.out.all h0 HMT.out (by omega))
            clear hI
            obtain ⟨t, ht⟩ : ∃ t, trd ⟨oi, ol, true, op, oq⟩ x x.qty = t := ⟨_, rfl⟩
            have HT := Lib.hid ht
            have t5 : t.qty = x.qty := by rw [← ht]; rfl
            have HTQ := Lib.hid t5
            have hcB : Chg [] W2 ((W2).alloc (.cells #[.int .i64 x.id, .int .i64 oi, .int .i64 ol, .int .i64 x.client, .int .u64 x.price, .int .u64 x.qty] 99)) := (Chg.refl _ _).alloc _
            have hBT0 : Blk ((W2).alloc (.cells #[.int .i64 x.id, .int .i64 oi, .int .i64 ol, .int .i64 x.client, .int .u64 x.price, .int .u64 x.qty] 99)) W2.heap.size 99 [.int .i64 x.id, .int .i64 oi, .int .i64 ol, .int .i64 x.client, .int .u64 x.price, .int .u64 x.qty] := Blk.new W2 _ _
            have hS3 := hS2.to hcB
            have HOG := Lib.hid fun k hk => (hS2.own.lt k hk).2
            have hgt1 : n < W2.heap.size := hS2.box.lt
            have hgt2 := hBX.lt
            clear ht t5 hcB
            have hBT : Blk ((W2).alloc (.cells #[.int .i64 x.id, .int .i64 oi, .int .i64 ol, .int .i64 x.client, .int .u64 x.price, .int .u64 x.qty] 99)) W2.heap.size 99 (tc t) := by rw [← HT.out]; exact hBT0
            clear hBT0 hS2
            go_upto_region 9 with (fail)
            clear b0 b1 b2 b3 b4 y0 y1 y2 y3 y4 hBX
            generalize W2.heap.size = gt at *
            generalize W2.alloc _ = W4 at *
            have t0 := hBT.at (i := 0) rfl
            have t1 := hBT.at (i := 1) rfl
            have t2 := hBT.at (i := 2) rfl
            have t3 := hBT.at (i := 3) rfl
            have t4 := hBT.at (i := 4) rfl
            have t5 := hBT.at (i := 5) rfl
            have hown := hS3.own
            go_wp2_with (at_builtin; refine wpList_append_own _ rfl (.tmp 78) (.tmp 80) 44 rfl (n + 1) 99 i0 (tv Trd.zero) 6 48 Tryz.underlying44 hi iz0 iz1 iz2 rfl (by decide) _ _ _ rfl (hown.alloc _) ⟨W4.heap.size, 0, none⟩ 1 1 (tc t) rfl rfl ?c1 ?c2 ?c3 ?c4 ?c5 ?_)
            case c1 => first | exact news_new W4 _ _ | exact (fun _ _ h => h) | (intro j u h; simpa using h)
            case c2 => simp [tc, Value.oneCell']
            case c3 => unfold maxLen; omega
            case c4 => omega
            case c5 => have := hS3.box.lt; simp; omega
            intro v' w5 hown1 hg1 _
            rw [← flat_snoc] at hown1
            have c5 := (Chg.refl [] W4).alloc (.cells #[.int .i64 t.maker, .int .i64 t.taker, .int .i64 t.buyer, .int .i64 t.seller, .int .u64 t.price, .int .u64 t.qty] 99)
            have hB5 : Blk w5 gt 99 (tc t) := (hBT.chg c5 (by simp)).grown hg1 (fun e => by have := HOG.out _ e; omega)
            have hS5 : RSt w F n g 2 s true oi ol true op w5 v' (T ++ [t]) q (x :: Q) := (hS3.to c5).grown hg1 (by simpa using hown1)
            clear hS3 hBT hown hown1 hg1 c5 t0 t1 t2 t3 t4 t5
            have b4 := hS5.box.at (i := 4) rfl
            have f4 := hS5.box.free 4
            have t5 : w5.cell? ⟨gt, 5, none⟩ = some (.int .u64 x.qty) := by rw [← HTQ.out]; exact hB5.at (i := 5) rfl
            have HI3 : Hid (MchIs ⟨oi, ol, true, op, oq⟩ oq Q0 (T ++ [t]) (q - x.qty) Q) := by have := HI2.out; rw [HT.out] at this; exact this
            have hS6 := hS5.store (q - x.qty)
            have hB6 := hB5.put ⟨n, 4, none⟩ (.int .u64 (q - x.qty)) (by show gt ≠ n; omega)
            have hokx := HOK.out x (by simp)
            have HOKQ : Hid (∀ z ∈ (x :: Q), z.Ok) := HOK.out
            obtain ⟨qx1, qx2⟩ := hokx.qty
            clear hS5 hB5 HI2 hokx
            have wq : IntKind.u64.wrap (q - x.qty) = q - x.qty := by simp [IntKind.wrap, IntKind.bits, IntKind.signed]; omega
            go_upto_region 11 with (fail)
            clear b4 f4 t5
            generalize w5.setCell _ _ = W6 at *
            have t5 : W6.cell? ⟨gt, 5, none⟩ = some (.int .u64 x.qty) := by rw [← HTQ.out]; exact hB6.at (i := 5) rfl
            go_wp2_with fail
            refine (rCut hS6.sd x.qty ⟨by omega, by omega⟩ HOKQ.out (by rw [HNQ.out]; omega)).mono ?_
            rw [cutQ_cons, if_pos (by omega)]
            rintro e w7 ⟨rfl, s7, hq7, c7, b7, e7⟩
            have hS7 := hS6.cut (by simp) hq7 c7 b7 e7
            clear hS6 hB6 hq7 c7 b7 e7 t5
            obtain ⟨c9, r1, -, -, -, x0, x1, x2, x3, x4⟩ := hS7.sd.at (k := 0) (by simp)
            simp only [Nat.zero_mul, Nat.zero_add] at x0 x1 x2 x3 x4
            have x4' : w7.cell? ⟨s7, 4, none⟩ = some (.int .u64 (0)) := by simpa using x4
            have r1' : w7.cell? ⟨g, 3, none⟩ = some (.slice (some ⟨s7, 0, none⟩) nQ c9) := by rw [← HNQ.out]; exact r1
            clear x0 x1 x2 x3 x4 r1
            go_wp2_with fail
            refine (rDrop hS7.sd (i := 0) (by simp) (by simp; simp at q3; omega)).mono ?_
            rintro e w8 ⟨rfl, s8, hq8, c8, b8, e8⟩
            have hS8 := hS7.cut (by simp) hq8 c8 b8 e8
            rw [erase_zero] at hS8
            clear hS7 hq8 c8 b8 e8 x4' r1'
            have hok9 : Hid (∀ z ∈ Q, z.Ok) := fun z hz => HOKQ.out z (by simp [hz])
            go_wp2_with fail
            go_roundg (gk - 1)
            case measure => have := hn.out; simp at this; omega
            case rel => exact ⟨T ++ [t], (q - x.qty), Q, _, hS8, HI3, by omega, by omega, by simp at q3; omega, hok9, by have := hn.out; rw [if_pos h0] at this; show _ ≤ _; simp at this ⊢; (first | omega | (split <;> omega))⟩
    · obtain rfl : q = 0 := by omega
      have HF := Lib.hid hI.out.zero
      clear hI
      have z4 := hS.box.at (i := 4) rfl
      have HST := Lib.hid hS
      obtain ⟨a, cap, rfl, hN⟩ := own_new HST.out.own
      have HNN := Lib.hid hN
      clear hN hS
      go_wp2_with fail
      go_quiet (fail)
      go_wp2_with fail
      have hfin : mres ⟨oi, ol, true, op, oq⟩ L M = (T, 0, Q) := HR.out.trans HF.out
      have hret : Ending.returned (.tuple #[.slice a T.length cap, .int .u64 0]) = Ending.returned (.tuple #[.slice a (mres ⟨oi, ol, true, op, oq⟩ L M).1.length cap, .int .u64 (mres ⟨oi, ol, true, op, oq⟩ L M).2.1]) := by rw [hfin]
      have hS9 := HST.out.to ((Chg.refl [] _).drewN nq)
      have hpost : NewF tc (wr.drewN nq) w.heap.size 99 a (mres ⟨oi, ol, true, op, oq⟩ L M).1 ∧ Rbk (wr.drewN nq) F g (mL ⟨oi, ol, true, op, oq⟩ L M) (mM ⟨oi, ol, true, op, oq⟩ L M) ∧ Chg [g] w (wr.drewN nq) := by
        refine ⟨by rw [hfin, HG.out]; exact (HNN.out.mono (Nat.le_succ n)).chg0 ((Chg.refl [] _).drewN nq), ?_, hS9.chg⟩
        have hm1 : mL ⟨oi, ol, true, op, oq⟩ L M = L := by rfl
        have hm2 : mM ⟨oi, ol, true, op, oq⟩ L M = Q := by unfold mM; rw [hfin]; rfl
        rw [hm1, hm2]
        exact HB.out _ _ hS9.rsd hS9.chg hS9.but
      go_ret2
      exact ⟨a, cap, hret, hpost⟩

end Go.Proofs.YteabcpmpcbjicaaGreat

namespace Go.Proofs.YteabcpmpcbjicaaGreat
set_option linter.unusedVariables false
open Go Go.Proofs Go.RowKit
attribute [local go_sem ↓] Go.wp_at_zero Go.wp_at_succ

set_option maxRecDepth 100000 in
set_option maxHeartbeats 8000000 in
theorem rbMatchF {w : World} {F : List Nat} {g : Nat} {L M : List Ord} (h : Rbk w F g L M) (oi ol op oq : Int) (ho : (⟨oi, ol, false, op, oq⟩ : Ord).Ok) (hok : ∀ x ∈ L, x.Ok) (zQ : L.length < 999999999) :
    Calls Tryz.prog 172 #[.pointer (some ⟨g, 0, none⟩), ov ⟨oi, ol, false, op, oq⟩] w fun e w' => ∃ a c, e = .returned (.tuple #[.slice a (mres ⟨oi, ol, false, op, oq⟩ L M).1.length c, .int .u64 (mres ⟨oi, ol, false, op, oq⟩ L M).2.1]) ∧ NewF tc w' w.heap.size 99 a (mres ⟨oi, ol, false, op, oq⟩ L M).1 ∧ Rbk w' F g (mL ⟨oi, ol, false, op, oq⟩ L M) (mM ⟨oi, ol, false, op, oq⟩ L M) ∧ Chg [g] w w' := by
  obtain ⟨i0, hi, iz0, iz1, iz2⟩ := info_parts info_trd
  have HB : Hid (∀ (w' : World) Q', Rsd w' F g 0 false Q' → Chg [g] w w' → But g 1 w w' → Rbk w' F g Q' M) := fun w' Q' hq c b =>
    ⟨hq, h.a.other c b (hq.elim fun _ h => h.1.fr) (by omega) (by omega), fun x hx => Nat.lt_of_lt_of_le (h.fr x hx) c.size, h.ne⟩
  obtain ⟨s0, hs0, gd0⟩ := h.b
  have hfl := h.fr
  have hgl := h.b.lt
  have hsl := hs0.sl
  have HO := Lib.hid ho
  obtain ⟨u1, u2⟩ := ho.qty
  obtain ⟨u3, u4⟩ := ho.price
  dsimp only at u1 u2 u3 u4
  obtain ⟨Q0, hQ0⟩ : ∃ Q, L = Q := ⟨_, rfl⟩
  have HR : Hid (mres ⟨oi, ol, false, op, oq⟩ L M = mch ⟨oi, ol, false, op, oq⟩ oq Q0) := by show _ = _; rw [← hQ0]; rfl
  rw [hQ0] at hs0 gd0 hok zQ
  have HI : Hid (MchIs ⟨oi, ol, false, op, oq⟩ oq Q0 [] oq Q0) := MchIs.start _ _ _
  have hOK0 := Lib.hid hok
  have b1 := Blk.new w (oc ⟨oi, ol, false, op, oq⟩) 73
  have c1 := (Chg.refl [] w).alloc (.cells #[.int .i64 oi, .int .i64 ol, .bool false, .int .u64 op, .int .u64 oq] 73)
  clear hQ0 ho h hok
  go_enter Tryz.func172, Tryz.ntmps172
  have B1 : Blk (w.alloc (.cells #[.int .i64 oi, .int .i64 ol, .bool false, .int .u64 op, .int .u64 oq] 73)) w.heap.size 73 (oc ⟨oi, ol, false, op, oq⟩) := b1
  have z2 := B1.at (i := 2) rfl
  clear b1
  go_upto_region 1 with (fail)
  obtain ⟨n, hg⟩ : ∃ g, w.heap.size = g := ⟨_, rfl⟩
  rw [hg] at B1 hgl hsl hfl z2 ⊢
  have HG := Lib.hid hg
  clear hg
  have hS0 : RSt w F n g 0 s0 false oi ol false op (w.alloc (.cells #[.int .i64 oi, .int .i64 ol, .bool false, .int .u64 op, .int .u64 oq] 73)) (.slice none 0 0) [] oq Q0 :=
    ⟨World.ownsRow_nil _ _ _ _, B1, hs0.chg c1 (by simp) (by simp), gd0.imp (fun z => z) fun z => ⟨z.1, z.2, by omega⟩, c1.mono (by simp), But.chg c1 (by rw [HG.out]; exact hgl) (by simp), hgl, HG.out, hfl⟩
  clear B1 c1 hs0 gd0
  generalize w.alloc _ = W0 at *
  go_wp2_with fail
  refine (rSide0 g _).mono ?_
  rintro e w3 ⟨rfl, rfl⟩
  go_wp2_with fail
  clear z2
  go_loopg [7] (2 * Q0.length + 1) (fun k v wr => ∃ (T : List Trd) (q : Int) (Q : List Ord) (s : Nat), RSt w F n g 0 s false oi ol false op wr v T q Q ∧ Hid (MchIs ⟨oi, ol, false, op, oq⟩ oq Q0 T q Q) ∧ 0 ≤ q ∧ q ≤ oq ∧ Q.length ≤ Q0.length ∧ Hid (∀ z ∈ Q, z.Ok) ∧ Hid (2 * Q.length + (if 0 < q then 1 else 0) ≤ k))
  case atStart => exact ⟨[], oq, Q0, s0, hS0, HI, u1, Int.le_refl _, Nat.le_refl _, hOK0, by show _ ≤ _; split <;> omega⟩
  case round =>
    clear hS0 HI hOK0
    obtain ⟨T, q, Q, s, hS, hI, q1, q2, q3, HOK, hn⟩ := hrel
    have hTl := hI.out.len
    by_cases h0 : 0 < q
    · have d0 : decide (0 < q) = true := by simp; omega
      cases Q with
      | nil =>
        have h4 := hS.box.at (i := 4) rfl
        obtain ⟨a8, c8, r1, -, -, -⟩ := hS.sd.row
        simp only [List.length_nil] at r1
        have HF := Lib.hid hI.out.nil
        clear hI
        have z4 := hS.box.at (i := 4) rfl
        have HST := Lib.hid hS
        obtain ⟨a, cap, rfl, hN⟩ := own_new HST.out.own
        have HNN := Lib.hid hN
        clear hN hS
        go_wp2_with fail
        go_quiet (fail)
        go_wp2_with fail
        have hfin : mres ⟨oi, ol, false, op, oq⟩ L M = (T, q, []) := HR.out.trans HF.out
        have hret : Ending.returned (.tuple #[.slice a T.length cap, .int .u64 q]) = Ending.returned (.tuple #[.slice a (mres ⟨oi, ol, false, op, oq⟩ L M).1.length cap, .int .u64 (mres ⟨oi, ol, false, op, oq⟩ L M).2.1]) := by rw [hfin]
        have hS9 := HST.out.to ((Chg.refl [] _).drewN nq)
        have hpost : NewF tc (wr.drewN nq) w.heap.size 99 a (mres ⟨oi, ol, false, op, oq⟩ L M).1 ∧ Rbk (wr.drewN nq) F g (mL ⟨oi, ol, false, op, oq⟩ L M) (mM ⟨oi, ol, false, op, oq⟩ L M) ∧ Chg [g] w (wr.drewN nq) := by
          refine ⟨by rw [hfin, HG.out]; exact (HNN.out.mono (Nat.le_succ n)).chg0 ((Chg.refl [] _).drewN nq), ?_, hS9.chg⟩
          have hm1 : mL ⟨oi, ol, false, op, oq⟩ L M = [] := by unfold mL; rw [hfin]; rfl
          have hm2 : mM ⟨oi, ol, false, op, oq⟩ L M = M := by rfl
          rw [hm1, hm2]
          exact HB.out _ _ hS9.rsd hS9.chg hS9.but
        go_ret2
        exact ⟨a, cap, hret, hpost⟩

      | cons x Q =>
        have h4 := hS.box.at (i := 4) rfl
        obtain ⟨c8, r1, -, -, -, x0, x1, x2, x3, x4⟩ := hS.sd.at (k := 0) (by simp)
        simp only [Nat.zero_mul, Nat.zero_add] at x0 x1 x2 x3 x4
        have x0' : wr.cell? ⟨s, 0, none⟩ = some (.int .i64 x.id) := x0
        have x1' : wr.cell? ⟨s, 1, none⟩ = some (.int .i64 x.client) := x1
        have x2' : wr.cell? ⟨s, 2, none⟩ = some (.bool x.buy) := x2
        have x3' : wr.cell? ⟨s, 3, none⟩ = some (.int .u64 x.price) := x3
        have x4' : wr.cell? ⟨s, 4, none⟩ = some (.int .u64 x.qty) := x4
        clear x0 x1 x2 x3 x4
        obtain ⟨nQ, hnQ⟩ : ∃ m, (x :: Q).length = m := ⟨_, rfl⟩
        have nQ1 : 0 < nQ := by rw [← hnQ]; simp
        have nQ2 : (0 : Int) < (nQ : Int) := by omega
        have nQ3 : decide (0 < nQ) = true := by simp; omega
        have nQ4 : decide ((0 : Int) < (nQ : Int)) = true := by simp; omega
        have r1' : wr.cell? ⟨g, 1, none⟩ = some (.slice (some ⟨s, 0, none⟩) nQ c8) := by rw [← hnQ]; exact r1
        have q3' : nQ ≤ Q0.length := by rw [← hnQ]; exact q3
        have HNQ := Lib.hid hnQ
        have hx := HOK.out x (by simp)
        obtain ⟨k1, k2⟩ := hx.qty
        clear r1 hnQ hx
        have c2b := (Chg.refl [] wr).alloc (.cells #[.int .i64 x.id, .int .i64 x.client, .bool x.buy, .int .u64 x.price, .int .u64 x.qty] 73)
        have hBX : Blk (wr.alloc (.cells #[.int .i64 x.id, .int .i64 x.client, .bool x.buy, .int .u64 x.price, .int .u64 x.qty] 73)) wr.heap.size 73 (oc x) := Blk.new wr (oc x) 73
        have hS2 := hS.to c2b
        have hgx : n < wr.heap.size := hS.box.lt
        clear hS c2b
        go_upto_region 5 with (fail)
        clear h4 r1' x0' x1' x2' x3' x4'
        generalize wr.heap.size = gx at *
        generalize wr.alloc _ = W2 at *
        have b0 := hS2.box.at (i := 0) rfl
        have b1 := hS2.box.at (i := 1) rfl
        have b2 := hS2.box.at (i := 2) rfl
        have b3 := hS2.box.at (i := 3) rfl
        have b4 := hS2.box.at (i := 4) rfl
        have y0 := hBX.at (i := 0) rfl
        have y1 := hBX.at (i := 1) rfl
        have y2 := hBX.at (i := 2) rfl
        have y3 := hBX.at (i := 3) rfl
        have y4 := hBX.at (i := 4) rfl
        cases hmt : meet ⟨oi, ol, false, op, oq⟩ x with
        | false =>
          have HMT := Lib.hid hmt
          have HF := Lib.hid (hI.out.no hmt)
          have dp : decide (x.price < op) = true := by
            have : decide (op ≤ x.price) = false := hmt
            simp at this ⊢; omega
          clear hI hmt
          have hS := hS2.to (Chg.refl [] W2)
          clear hS2 hBX
          go_upto_region 14 with (fail)
          clear b0 b1 b2 b3 b4 y0 y1 y2 y3 y4
          generalize hWR : W2 = wr2 at *
          have z4 := hS.box.at (i := 4) rfl
          have HST := Lib.hid hS
          obtain ⟨a, cap, rfl, hN⟩ := own_new HST.out.own
          have HNN := Lib.hid hN
          clear hN hS
          go_wp2_with fail
          go_quiet (fail)
          go_wp2_with fail
          have hfin : mres ⟨oi, ol, false, op, oq⟩ L M = (T, q, (x :: Q)) := HR.out.trans HF.out
          have hret : Ending.returned (.tuple #[.slice a T.length cap, .int .u64 q]) = Ending.returned (.tuple #[.slice a (mres ⟨oi, ol, false, op, oq⟩ L M).1.length cap, .int .u64 (mres ⟨oi, ol, false, op, oq⟩ L M).2.1]) := by rw [hfin]
          have hS9 := HST.out.to ((Chg.refl [] _).drewN nq)
          have hpost : NewF tc (wr2.drewN nq) w.heap.size 99 a (mres ⟨oi, ol, false, op, oq⟩ L M).1 ∧ Rbk (wr2.drewN nq) F g (mL ⟨oi, ol, false, op, oq⟩ L M) (mM ⟨oi, ol, false, op, oq⟩ L M) ∧ Chg [g] w (wr2.drewN nq) := by
            refine ⟨by rw [hfin, HG.out]; exact (HNN.out.mono (Nat.le_succ n)).chg0 ((Chg.refl [] _).drewN nq), ?_, hS9.chg⟩
            have hm1 : mL ⟨oi, ol, false, op, oq⟩ L M = (x :: Q) := by unfold mL; rw [hfin]; rfl
            have hm2 : mM ⟨oi, ol, false, op, oq⟩ L M = M := by rfl
            rw [hm1, hm2]
            exact HB.out _ _ hS9.rsd hS9.chg hS9.but
          go_ret2
          exact ⟨a, cap, hret, hpost⟩

        | true =>
          have HMT := Lib.hid hmt
          have dp : decide (x.price < op) = false := by
            have : decide (op ≤ x.price) = true := hmt
            simp at this ⊢; omega
          clear hmt
          rcases (by omega : q < x.qty ∨ q = x.qty ∨ x.qty < q) with hlt | rfl | hgt
          · have HI2 := Lib.hid (hI.out.part h0 HMT.out hlt)
            clear hI
            obtain ⟨t, ht⟩ : ∃ t, trd ⟨oi, ol, false, op, oq⟩ x q = t := ⟨_, rfl⟩
            have HT := Lib.hid ht
            have t5 : t.qty = q := by rw [← ht]; rfl
            have HTQ := Lib.hid t5
            have hcB : Chg [] W2 ((W2).alloc (.cells #[.int .i64 x.id, .int .i64 oi, .int .i64 ol, .int .i64 x.client, .int .u64 x.price, .int .u64 q] 99)) := (Chg.refl _ _).alloc _
            have hBT0 : Blk ((W2).alloc (.cells #[.int .i64 x.id, .int .i64 oi, .int .i64 ol, .int .i64 x.client, .int .u64 x.price, .int .u64 q] 99)) W2.heap.size 99 [.int .i64 x.id, .int .i64 oi, .int .i64 ol, .int .i64 x.client, .int .u64 x.price, .int .u64 q] := Blk.new W2 _ _
            have hS3 := hS2.to hcB
            have HOG := Lib.hid fun k hk => (hS2.own.lt k hk).2
            have hgt1 : n < W2.heap.size := hS2.box.lt
            have hgt2 := hBX.lt
            clear ht t5 hcB
            clear hS2
            go_upto_region 8 with (fail)
            clear b0 b1 b2 b3 b4 y0 y1 y2 y3 y4
            have hBX3 := hBX.chg (((Chg.refl [] W2).alloc (.cells #[.int .i64 x.id, .int .i64 oi, .int .i64 ol, .int .i64 x.client, .int .u64 x.price, .int .u64 q] 99))) (by simp)
            clear hBX
            generalize W2.heap.size = gt at *
            generalize W2.alloc _ = W3 at *
            have u1 := hBX3.at (i := 1) rfl
            have u2 := hS3.box.at (i := 1) rfl
            have t2 := hBT0.at (i := 2) rfl
            have t3 := hBT0.at (i := 3) rfl
            have z2 := hBT0.free 2
            have z3 := hBT0.free 3
            have HZ1 : Hid (∀ u, (W3.setCell ⟨gt, 2, none⟩ u).drew.cell? ⟨gx, 1, none⟩ = some (.int .i64 x.client) ∧ (W3.setCell ⟨gt, 2, none⟩ u).drew.cell? ⟨n, 1, none⟩ = some (.int .i64 ol)) := fun u => by
              have c : Chg [gt] W3 (W3.setCell ⟨gt, 2, none⟩ u) := (Chg.refl _ _).setCell _ _ (by simp)
              exact ⟨c.drew.cell u1 (by simp; omega), c.drew.cell u2 (by simp; omega)⟩
            have HZ2 : Hid (∀ u u', ((W3.setCell ⟨gt, 2, none⟩ u).setCell ⟨gt, 3, none⟩ u').drew.cell? ⟨gx, 1, none⟩ = some (.int .i64 x.client) ∧ ((W3.setCell ⟨gt, 2, none⟩ u).setCell ⟨gt, 3, none⟩ u').drew.cell? ⟨n, 1, none⟩ = some (.int .i64 ol)) := fun u u' => by
              have c : Chg [gt] W3 ((W3.setCell ⟨gt, 2, none⟩ u).setCell ⟨gt, 3, none⟩ u') := ((Chg.refl _ _).setCell _ _ (by simp)).setCell _ _ (by simp)
              exact ⟨c.drew.cell u1 (by simp; omega), c.drew.cell u2 (by simp; omega)⟩
            have hS4 := ((hS3.tset 2 (.int .i64 x.client) (gt := gt) (by omega) hBT0 HOG.out).tset 3 (.int .i64 ol) (gt := gt) (by omega) (hBT0.set 2 (.int .i64 x.client)) HOG.out).to (Chg.refl [] _).drew
            have hBT : Blk ((W3.setCell ⟨gt, 2, none⟩ (.int .i64 x.client)).setCell ⟨gt, 3, none⟩ (.int .i64 ol)).drew gt 99 (tc t) := by
              rw [← HT.out]; exact ((hBT0.set 2 (.int .i64 x.client)).set 3 (.int .i64 ol)).drew
            clear hBX3 hBT0 hS3
            refine wp_region_held_drew (S := (fun w' => w'.cell? ⟨gx, 1, none⟩ = some (.int .i64 x.client) ∧ w'.cell? ⟨n, 1, none⟩ = some (.int .i64 ol))) (by kernel_rfl) ⟨u1, u2⟩ (fun _ => ?_)
            refine wpAnyH_take (i := 0) (v := ?_) rfl (by kernel_rfl) (by kernel_rfl) (by kernel_rfl) (fun _ _ _ h => h) (Or.inl ⟨by rfl, ?_⟩) ⟨u1, u2⟩ ?_
            rotate_left
            · (intro w hSw; (try dsimp only at hSw); go_simp; (try (with_reducible rfl)))
            change wpAnyH _ _ _ _ _ _ _ (Act.put _ (some 72) _) _
            simp only [Act.put, List.setIfInBounds_toArray, List.set_cons_succ, List.set_cons_zero]
            refine wpAnyH_take (i := 1) (v := ?_) rfl (by kernel_rfl) (by kernel_rfl) (by kernel_rfl) (fun _ _ _ h => h) (Or.inl ⟨by rfl, ?_⟩) ⟨u1, u2⟩ ?_
            rotate_left
            · (intro w hSw; (try dsimp only at hSw); go_simp; (try (with_reducible rfl)))
            change wpAnyH _ _ _ _ _ _ _ (Act.put _ (some 73) _) _
            simp only [Act.put, List.setIfInBounds_toArray, List.set_cons_succ, List.set_cons_zero]
            refine wpAnyH_take (i := 2) (v := ?_) rfl (by kernel_rfl) (by kernel_rfl) (by kernel_rfl) (fun _ _ _ h => h) (Or.inl ⟨by rfl, ?_⟩) ⟨u1, u2⟩ ?_
            rotate_left
            · (intro w hSw; (try dsimp only at hSw); go_simp; (try (with_reducible rfl)))
            change wpAnyH _ _ _ _ _ _ _ (Act.put _ (some 74) _) _
            simp only [Act.put, List.setIfInBounds_toArray, List.set_cons_succ, List.set_cons_zero]
            refine wpAnyH_take (i := 3) (v := ?_) rfl (by kernel_rfl) (by kernel_rfl) (by kernel_rfl) (fun _ _ _ h => h) (Or.inl ⟨by rfl, ?_⟩) ⟨u1, u2⟩ ?_
            rotate_left
            · (intro w hSw; (try dsimp only at hSw); go_simp; (try (with_reducible rfl)))
            change wpAnyH _ _ _ _ _ _ _ (Act.put _ (some 75) _) _
            simp only [Act.put, List.setIfInBounds_toArray, List.set_cons_succ, List.set_cons_zero]
            refine wpAnyH_take (i := 4) (v := ?_) rfl (by kernel_rfl) (by kernel_rfl) (by kernel_rfl) (fun _ _ _ h => h) (Or.inl ⟨by rfl, ?_⟩) ⟨u1, u2⟩ ?_
            rotate_left
            · (intro w hSw; (try dsimp only at hSw); go_simp; (try (with_reducible rfl)))
            change wpAnyH _ _ _ _ _ _ _ (Act.put _ (some 76) _) _
            simp only [Act.put, List.setIfInBounds_toArray, List.set_cons_succ, List.set_cons_zero]
            refine wpAnyH_ready (rs := [5]) (by kernel_rfl) (by simp) (AllReadyH.cons rfl (fun K hK => ?_) AllReadyH.nil)
            go_simp
            refine hK.out _ _ (HZ1.out _) (fun hHeld => ?_)
            clear hK K
            refine wpAnyH_take (i := 6) (v := ?_) rfl (by kernel_rfl) (by kernel_rfl) (by kernel_rfl) (fun _ _ _ h => h) (Or.inl ⟨by rfl, ?_⟩) (HZ1.out _) ?_
            rotate_left
            · (intro w hSw; (try dsimp only at hSw); go_simp; (try (with_reducible rfl)))
            change wpAnyH _ _ _ _ _ _ _ (Act.put _ (some 77) _) _
            simp only [Act.put, List.setIfInBounds_toArray, List.set_cons_succ, List.set_cons_zero]
            refine wpAnyH_ready (rs := [7]) (by kernel_rfl) (by simp) (AllReadyH.cons rfl (fun K hK => ?_) AllReadyH.nil)
            go_simp
            refine hK.out _ _ (HZ2.out _ _) (fun hHeld => ?_)
            clear hK K
            refine wpAnyH_done (by kernel_rfl) ?_ _
            go_upto_region 9 with (fail)
            clear t2 t3 z2 z3
            generalize ((W3.setCell ⟨gt, 2, none⟩ (.int .i64 x.client)).setCell ⟨gt, 3, none⟩ (.int .i64 ol)).drew = W4 at *
            have hS3 := hS4
            clear hS4
            have t0 := hBT.at (i := 0) rfl
            have t1 := hBT.at (i := 1) rfl
            have t2 := hBT.at (i := 2) rfl
            have t3 := hBT.at (i := 3) rfl
            have t4 := hBT.at (i := 4) rfl
            have t5 := hBT.at (i := 5) rfl
            have hown := hS3.own
            go_wp2_with (at_builtin; refine wpList_append_own _ rfl (.tmp 78) (.tmp 80) 44 rfl (n + 1) 99 i0 (tv Trd.zero) 6 48 Tryz.underlying44 hi iz0 iz1 iz2 rfl (by decide) _ _ _ rfl (hown.alloc _) ⟨W4.heap.size, 0, none⟩ 1 1 (tc t) rfl rfl ?c1 ?c2 ?c3 ?c4 ?c5 ?_)
            case c1 => first | exact news_new W4 _ _ | exact (fun _ _ h => h) | (intro j u h; simpa using h)
            case c2 => simp [tc, Value.oneCell']
            case c3 => unfold maxLen; omega
            case c4 => omega
            case c5 => have := hS3.box.lt; simp; omega
            intro v' w5 hown1 hg1 _
            rw [← flat_snoc] at hown1
            have c5 := (Chg.refl [] W4).alloc (.cells #[.int .i64 t.maker, .int .i64 t.taker, .int .i64 t.buyer, .int .i64 t.seller, .int .u64 t.price, .int .u64 t.qty] 99)
            have hB5 : Blk w5 gt 99 (tc t) := (hBT.chg c5 (by simp)).grown hg1 (fun e => by have := HOG.out _ e; omega)
            have hS5 : RSt w F n g 0 s false oi ol false op w5 v' (T ++ [t]) q (x :: Q) := (hS3.to c5).grown hg1 (by simpa using hown1)
            clear hS3 hBT hown hown1 hg1 c5 t0 t1 t2 t3 t4 t5
            have b4 := hS5.box.at (i := 4) rfl
            have f4 := hS5.box.free 4
            have t5 : w5.cell? ⟨gt, 5, none⟩ = some (.int .u64 q) := by rw [← HTQ.out]; exact hB5.at (i := 5) rfl
            have HI3 : Hid (MchIs ⟨oi, ol, false, op, oq⟩ oq Q0 (T ++ [t]) 0 ({ x with qty := x.qty - q } :: Q)) := by have := HI2.out; rw [HT.out] at this; exact this
            have hS6 := hS5.store 0
            have hB6 := hB5.put ⟨n, 4, none⟩ (.int .u64 0) (by show gt ≠ n; omega)
            have hokx := HOK.out x (by simp)
            have HOKQ : Hid (∀ z ∈ (x :: Q), z.Ok) := HOK.out
            obtain ⟨qx1, qx2⟩ := hokx.qty
            clear hS5 hB5 HI2 hokx
            go_upto_region 11 with (fail)
            clear b4 f4 t5
            generalize w5.setCell _ _ = W6 at *
            have t5 : W6.cell? ⟨gt, 5, none⟩ = some (.int .u64 q) := by rw [← HTQ.out]; exact hB6.at (i := 5) rfl
            go_wp2_with fail
            refine (rCut hS6.sd q ⟨by omega, by omega⟩ HOKQ.out (by rw [HNQ.out]; omega)).mono ?_
            rw [cutQ_cons, if_pos (by omega)]
            rintro e w7 ⟨rfl, s7, hq7, c7, b7, e7⟩
            have hS7 := hS6.cut (by simp) hq7 c7 b7 e7
            clear hS6 hB6 hq7 c7 b7 e7 t5
            obtain ⟨c9, r1, -, -, -, x0, x1, x2, x3, x4⟩ := hS7.sd.at (k := 0) (by simp)
            simp only [Nat.zero_mul, Nat.zero_add] at x0 x1 x2 x3 x4
            have x4' : w7.cell? ⟨s7, 4, none⟩ = some (.int .u64 (x.qty - q)) := by simpa using x4
            have r1' : w7.cell? ⟨g, 1, none⟩ = some (.slice (some ⟨s7, 0, none⟩) nQ c9) := by rw [← HNQ.out]; exact r1
            clear x0 x1 x2 x3 x4 r1
            have hne : (x.qty - q == 0) = false := beq_eq_false_iff_ne.2 (by omega)
            have hne2 : decide (x.qty - q = 0) = false := by simp; omega
            have hok9 : Hid (∀ z ∈ ({ x with qty := x.qty - q } :: Q : List Ord), z.Ok) := by
              intro z hz
              rcases List.mem_cons.1 hz with rfl | hz
              · have h1 := HOKQ.out x (by simp)
                exact ⟨h1.id, h1.client, h1.price, ⟨by show 0 ≤ x.qty - q; omega, by show x.qty - q < _; omega⟩⟩
              · exact HOKQ.out z (by simp [hz])
            go_wp2_with fail
            go_roundg (gk - 1)
            case measure => have := hn.out; simp at this; omega
            case rel => exact ⟨T ++ [t], 0, _, _, hS7, HI3, by omega, by omega, by simpa using q3, hok9, by have := hn.out; rw [if_pos h0] at this; show _ ≤ _; simp at this ⊢; omega⟩
          · have HI2 := Lib.hid (hI.out.all h0 HMT.out (by omega))
            clear hI
            obtain ⟨t, ht⟩ : ∃ t, trd ⟨oi, ol, false, op, oq⟩ x x.qty = t := ⟨_, rfl⟩
            have HT := Lib.hid ht
            have t5 : t.qty = x.qty := by rw [← ht]; rfl
            have HTQ := Lib.hid t5
            have hcB : Chg [] W2 ((W2).alloc (.cells #[.int .i64 x.id, .int .i64 oi, .int .i64 ol, .int .i64 x.client, .int .u64 x.price, .int .u64 x.qty] 99)) := (Chg.refl _ _).alloc _
            have hBT0 : Blk ((W2).alloc (.cells #[.int .i64 x.id, .int .i64 oi, .int .i64 ol, .int .i64 x.client, .int .u64 x.price, .int .u64 x.qty] 99)) W2.heap.size 99 [.int .i64 x.id, .int .i64 oi, .int .i64 ol, .int .i64 x.client, .int .u64 x.price, .int .u64 x.qty] := Blk.new W2 _ _
            have hS3 := hS2.to hcB
            have HOG := Lib.hid fun k hk => (hS2.own.lt k hk).2
            have hgt1 : n < W2.heap.size := hS2.box.lt
            have hgt2 := hBX.lt
            clear ht t5 hcB
            clear hS2
            go_upto_region 8 with (fail)
            clear b0 b1 b2 b3 b4 y0 y1 y2 y3 y4
            have hBX3 := hBX.chg (((Chg.refl [] W2).alloc (.cells #[.int .i64 x.id, .int .i64 oi, .int .i64 ol, .int .i64 x.client, .int .u64 x.price, .int .u64 x.qty] 99))) (by simp)
            clear hBX
            generalize W2.heap.size = gt at *
            generalize W2.alloc _ = W3 at *
            have u1 := hBX3.at (i := 1) rfl
            have u2 := hS3.box.at (i := 1) rfl
            have t2 := hBT0.at (i := 2) rfl
            have t3 := hBT0.at (i := 3) rfl
            have z2 := hBT0.free 2
            have z3 := hBT0.free 3
            have HZ1 : Hid (∀ u, (W3.setCell ⟨gt, 2, none⟩ u).drew.cell? ⟨gx, 1, none⟩ = some (.int .i64 x.client) ∧ (W3.setCell ⟨gt, 2, none⟩ u).drew.cell? ⟨n, 1, none⟩ = some (.int .i64 ol)) := fun u => by
              have c : Chg [gt] W3 (W3.setCell ⟨gt, 2, none⟩ u) := (Chg.refl _ _).setCell _ _ (by simp)
              exact ⟨c.drew.cell u1 (by simp; omega), c.drew.cell u2 (by simp; omega)⟩
            have HZ2 : Hid (∀ u u', ((W3.setCell ⟨gt, 2, none⟩ u).setCell ⟨gt, 3, none⟩ u').drew.cell? ⟨gx, 1, none⟩ = some (.int .i64 x.client) ∧ ((W3.setCell ⟨gt, 2, none⟩ u).setCell ⟨gt, 3, none⟩ u').drew.cell? ⟨n, 1, none⟩ = some (.int .i64 ol)) := fun u u' => by
              have c : Chg [gt] W3 ((W3.setCell ⟨gt, 2, none⟩ u).setCell ⟨gt, 3, none⟩ u') := ((Chg.refl _ _).setCell _ _ (by simp)).setCell _ _ (by simp)
              exact ⟨c.drew.cell u1 (by simp; omega), c.drew.cell u2 (by simp; omega)⟩
            have hS4 := ((hS3.tset 2 (.int .i64 x.client) (gt := gt) (by omega) hBT0 HOG.out).tset 3 (.int .i64 ol) (gt := gt) (by omega) (hBT0.set 2 (.int .i64 x.client)) HOG.out).to (Chg.refl [] _).drew
            have hBT : Blk ((W3.setCell ⟨gt, 2, none⟩ (.int .i64 x.client)).setCell ⟨gt, 3, none⟩ (.int .i64 ol)).drew gt 99 (tc t) := by
              rw [← HT.out]; exact ((hBT0.set 2 (.int .i64 x.client)).set 3 (.int .i64 ol)).drew
            clear hBX3 hBT0 hS3
            refine wp_region_held_drew (S := (fun w' => w'.cell? ⟨gx, 1, none⟩ = some (.int .i64 x.client) ∧ w'.cell? ⟨n, 1, none⟩ = some (.int .i64 ol))) (by kernel_rfl) ⟨u1, u2⟩ (fun _ => ?_)
            refine wpAnyH_take (i := 0) (v := ?_) rfl (by kernel_rfl) (by kernel_rfl) (by kernel_rfl) (fun _ _ _ h => h) (Or.inl ⟨by rfl, ?_⟩) ⟨u1, u2⟩ ?_
            rotate_left
            · (intro w hSw; (try dsimp only at hSw); go_simp; (try (with_reducible rfl)))
            change wpAnyH _ _ _ _ _ _ _ (Act.put _ (some 72) _) _
            simp only [Act.put, List.setIfInBounds_toArray, List.set_cons_succ, List.set_cons_zero]
            refine wpAnyH_take (i := 1) (v := ?_) rfl (by kernel_rfl) (by kernel_rfl) (by kernel_rfl) (fun _ _ _ h => h) (Or.inl ⟨by rfl, ?_⟩) ⟨u1, u2⟩ ?_
            rotate_left
            · (intro w hSw; (try dsimp only at hSw); go_simp; (try (with_reducible rfl)))
            change wpAnyH _ _ _ _ _ _ _ (Act.put _ (some 73) _) _
            simp only [Act.put, List.setIfInBounds_toArray, List.set_cons_succ, List.set_cons_zero]
            refine wpAnyH_take (i := 2) (v := ?_) rfl (by kernel_rfl) (by kernel_rfl) (by kernel_rfl) (fun _ _ _ h => h) (Or.inl ⟨by rfl, ?_⟩) ⟨u1, u2⟩ ?_
            rotate_left
            · (intro w hSw; (try dsimp only at hSw); go_simp; (try (with_reducible rfl)))
            change wpAnyH _ _ _ _ _ _ _ (Act.put _ (some 74) _) _
            simp only [Act.put, List.setIfInBounds_toArray, List.set_cons_succ, List.set_cons_zero]
            refine wpAnyH_take (i := 3) (v := ?_) rfl (by kernel_rfl) (by kernel_rfl) (by kernel_rfl) (fun _ _ _ h => h) (Or.inl ⟨by rfl, ?_⟩) ⟨u1, u2⟩ ?_
            rotate_left
            · (intro w hSw; (try dsimp only at hSw); go_simp; (try (with_reducible rfl)))
            change wpAnyH _ _ _ _ _ _ _ (Act.put _ (some 75) _) _
            simp only [Act.put, List.setIfInBounds_toArray, List.set_cons_succ, List.set_cons_zero]
            refine wpAnyH_take (i := 4) (v := ?_) rfl (by kernel_rfl) (by kernel_rfl) (by kernel_rfl) (fun _ _ _ h => h) (Or.inl ⟨by rfl, ?_⟩) ⟨u1, u2⟩ ?_
            rotate_left
            · (intro w hSw; (try dsimp only at hSw); go_simp; (try (with_reducible rfl)))
            change wpAnyH _ _ _ _ _ _ _ (Act.put _ (some 76) _) _
            simp only [Act.put, List.setIfInBounds_toArray, List.set_cons_succ, List.set_cons_zero]
            refine wpAnyH_ready (rs := [5]) (by kernel_rfl) (by simp) (AllReadyH.cons rfl (fun K hK => ?_) AllReadyH.nil)
            go_simp
            refine hK.out _ _ (HZ1.out _) (fun hHeld => ?_)
            clear hK K
            refine wpAnyH_take (i := 6) (v := ?_) rfl (by kernel_rfl) (by kernel_rfl) (by kernel_rfl) (fun _ _ _ h => h) (Or.inl ⟨by rfl, ?_⟩) (HZ1.out _) ?_
            rotate_left
            · (intro w hSw; (try dsimp only at hSw); go_simp; (try (with_reducible rfl)))
            change wpAnyH _ _ _ _ _ _ _ (Act.put _ (some 77) _) _
            simp only [Act.put, List.setIfInBounds_toArray, List.set_cons_succ, List.set_cons_zero]
            refine wpAnyH_ready (rs := [7]) (by kernel_rfl) (by simp) (AllReadyH.cons rfl (fun K hK => ?_) AllReadyH.nil)
            go_simp
            refine hK.out _ _ (HZ2.out _ _) (fun hHeld => ?_)
            clear hK K
            refine wpAnyH_done (by kernel_rfl) ?_ _
            go_upto_region 9 with (fail)
            clear t2 t3 z2 z3
            generalize ((W3.setCell ⟨gt, 2, none⟩ (.int .i64 x.client)).setCell ⟨gt, 3, none⟩ (.int .i64 ol)).drew = W4 at *
            have hS3 := hS4
            clear hS4
            have t0 := hBT.at (i := 0) rfl
            have t1 := hBT.at (i := 1) rfl
            have t2 := hBT.at (i := 2) rfl
            have t3 := hBT.at (i := 3) rfl
            have t4 := hBT.at (i := 4) rfl
            have t5 := hBT.at (i := 5) rfl
            have hown := hS3.own
            go_wp2_with (at_builtin; refine wpList_append_own _ rfl (.tmp 78) (.tmp 80) 44 rfl (n + 1) 99 i0 (tv Trd.zero) 6 48 Tryz.underlying44 hi iz0 iz1 iz2 rfl (by decide) _ _ _ rfl (hown.alloc _) ⟨W4.heap.size, 0, none⟩ 1 1 (tc t) rfl rfl ?c1 ?c2 ?c3 ?c4 ?c5 ?_)
            case c1 => first | exact news_new W4 _ _ | exact (fun _ _ h => h) | (intro j u h; simpa using h)
            case c2 => simp [tc, Value.oneCell']
            case c3 => unfold maxLen; omega
            case c4 => omega
            case c5 => have := hS3.box.lt; simp; omega
            intro v' w5 hown1 hg1 _
            rw [← flat_snoc] at hown1
            have c5 := (Chg.refl [] W4).alloc (.cells #[.int .i64 t.maker, .int .i64 t.taker, .int .i64 t.buyer, .int .i64 t.seller, .int .u64 t.price, .int .u64 t.qty] 99)
            have hB5 : Blk w5 gt 99 (tc t) := (hBT.chg c5 (by simp)).grown hg1 (fun e => by have := HOG.out _ e; omega)
            have hS5 : RSt w F n g 0 s false oi ol false op w5 v' (T ++ [t]) x.qty (x :: Q) := (hS3.to c5).grown hg1 (by simpa using hown1)
            clear hS3 hBT hown hown1 hg1 c5 t0 t1 t2 t3 t4 t5
            have b4 := hS5.box.at (i := 4) rfl
            have f4 := hS5.box.free 4
            have t5 : w5.cell? ⟨gt, 5, none⟩ = some (.int .u64 x.qty) := by rw [← HTQ.out]; exact hB5.at (i := 5) rfl
            have HI3 : Hid (MchIs ⟨oi, ol, false, op, oq⟩ oq Q0 (T ++ [t]) 0 Q) := by have := HI2.out; rw [HT.out] at this; rwa [Int.sub_self] at this
            have hS6 := hS5.store 0
            have hB6 := hB5.put ⟨n, 4, none⟩ (.int .u64 0) (by show gt ≠ n; omega)
            have hokx := HOK.out x (by simp)
            have HOKQ : Hid (∀ z ∈ (x :: Q), z.Ok) := HOK.out
            obtain ⟨qx1, qx2⟩ := hokx.qty
            clear hS5 hB5 HI2 hokx
            go_upto_region 11 with (fail)
            clear b4 f4 t5
            generalize w5.setCell _ _ = W6 at *
            have t5 : W6.cell? ⟨gt, 5, none⟩ = some (.int .u64 x.qty) := by rw [← HTQ.out]; exact hB6.at (i := 5) rfl
            go_wp2_with fail
            refine (rCut hS6.sd x.qty ⟨by omega, by omega⟩ HOKQ.out (by rw [HNQ.out]; omega)).mono ?_
            rw [cutQ_cons, if_pos (by omega)]
            rintro e w7 ⟨rfl, s7, hq7, c7, b7, e7⟩
            have hS7 := hS6.cut (by simp) hq7 c7 b7 e7
            clear hS6 hB6 hq7 c7 b7 e7 t5
            obtain ⟨c9, r1, -, -, -, x0, x1, x2, x3, x4⟩ := hS7.sd.at (k := 0) (by simp)
            simp only [Nat.zero_mul, Nat.zero_add] at x0 x1 x2 x3 x4
            have x4' : w7.cell? ⟨s7, 4, none⟩ = some (.int .u64 (0)) := by simpa using x4
            have r1' : w7.cell? ⟨g, 1, none⟩ = some (.slice (some ⟨s7, 0, none⟩) nQ c9) := by rw [← HNQ.out]; exact r1
            clear x0 x1 x2 x3 x4 r1
            go_wp2_with fail
            refine (rDrop hS7.sd (i := 0) (by simp) (by simp; simp at q3; omega)).mono ?_
            rintro e w8 ⟨rfl, s8, hq8, c8, b8, e8⟩
            have hS8 := hS7.cut (by simp) hq8 c8 b8 e8
            rw [erase_zero] at hS8
            clear hS7 hq8 c8 b8 e8 x4' r1'
            have hok9 : Hid (∀ z ∈ Q, z.Ok) := fun z hz => HOKQ.out z (by simp [hz])
            go_wp2_with fail
            go_roundg (gk - 1)
            case measure => have := hn.out; simp at this; omega
            case rel => exact ⟨T ++ [t], 0, Q, _, hS8, HI3, by omega, by omega, by simp at q3; omega, hok9, by have := hn.out; rw [if_pos h0] at this; show _ ≤ _; simp at this ⊢; (first | omega | (split <;> omega))⟩
          · have HI2 := Lib.hid (hI.out.all h0 HMT.out (by omega))
            clear hI
            obtain ⟨t, ht⟩ : ∃ t, trd ⟨oi, ol, false, op, oq⟩ x x.qty = t := ⟨_, rfl⟩
            have HT := Lib.hid ht
            have t5 : t.qty = x.qty := by rw [← ht]; rfl
            have HTQ := Lib.hid t5
            have hcB : Chg [] W2 ((W2).alloc (.cells #[.int .i64 x.id, .int .i64 oi, .int .i64 ol, .int .i64 x.client, .int .u64 x.price, .int .u64 x.qty] 99)) := (Chg.refl _ _).alloc _
            have hBT0 : Blk ((W2).alloc (.cells #[.int .i64 x.id, .int .i64 oi, .int .i64 ol, .int .i64 x.client, .int .u64 x.price, .int .u64 x.qty] 99)) W2.heap.size 99 [.int .i64 x.id, .int .i64 oi, .int .i64 ol, .int .i64 x.client, .int .u64 x.price, .int .u64 x.qty] := Blk.new W2 _ _
            have hS3 := hS2.to hcB
            have HOG := Lib.hid fun k hk => (hS2.own.lt k hk).2
            have hgt1 : n < W2.heap.size := hS2.box.lt
            have hgt2 := hBX.lt
            clear ht t5 hcB
            clear hS2
            go_upto_region 8 with (fail)
            clear b0 b1 b2 b3 b4 y0 y1 y2 y3 y4
            have hBX3 := hBX.chg (((Chg.refl [] W2).alloc (.cells #[.int .i64 x.id, .int .i64 oi, .int .i64 ol, .int .i64 x.client, .int .u64 x.price, .int .u64 x.qty] 99))) (by simp)
            clear hBX
            generalize W2.heap.size = gt at *
            generalize W2.alloc _ = W3 at *
            have u1 := hBX3.at (i := 1) rfl
            have u2 := hS3.box.at (i := 1) rfl
            have t2 := hBT0.at (i := 2) rfl
            have t3 := hBT0.at (i := 3) rfl
            have z2 := hBT0.free 2
            have z3 := hBT0.free 3
            have HZ1 : Hid (∀ u, (W3.setCell ⟨gt, 2, none⟩ u).drew.cell? ⟨gx, 1, none⟩ = some (.int .i64 x.client) ∧ (W3.setCell ⟨gt, 2, none⟩ u).drew.cell? ⟨n, 1, none⟩ = some (.int .i64 ol)) := fun u => by
              have c : Chg [gt] W3 (W3.setCell ⟨gt, 2, none⟩ u) := (Chg.refl _ _).setCell _ _ (by simp)
              exact ⟨c.drew.cell u1 (by simp; omega), c.drew.cell u2 (by simp; omega)⟩
            have HZ2 : Hid (∀ u u', ((W3.setCell ⟨gt, 2, none⟩ u).setCell ⟨gt, 3, none⟩ u').drew.cell? ⟨gx, 1, none⟩ = some (.int .i64 x.client) ∧ ((W3.setCell ⟨gt, 2, none⟩ u).setCell ⟨gt, 3, none⟩ u').drew.cell? ⟨n, 1, none⟩ = some (.int .i64 ol)) := fun u u' => by
              have c : Chg [gt] W3 ((W3.setCell ⟨gt, 2, none⟩ u).setCell ⟨gt, 3, none⟩ u') := ((Chg.refl _ _).setCell _ _ (by simp)).setCell _ _ (by simp)
              exact ⟨c.drew.cell u1 (by simp; omega), c.drew.cell u2 (by simp; omega)⟩
            have hS4 := ((hS3.tset 2 (.int .i64 x.client) (gt := gt) (by omega) hBT0 HOG.out).tset 3 (.int .i64 ol) (gt := gt) (by omega) (hBT0.set 2 (.int .i64 x.client)) HOG.out).to (Chg.refl [] _).drew
            have hBT : Blk ((W3.setCell ⟨gt, 2, none⟩ (.int .i64 x.client)).setCell ⟨gt, 3, none⟩ (.int .i64 ol)).drew gt 99 (tc t) := by
              rw [← HT.out]; exact ((hBT0.set 2 (.int .i64 x.client)).set 3 (.int .i64 ol)).drew
            clear hBX3 hBT0 hS3
            refine wp_region_held_drew (S := (fun w' => w'.cell? ⟨gx, 1, none⟩ = some (.int .i64 x.client) ∧ w'.cell? ⟨n, 1, none⟩ = some (.int .i64 ol))) (by kernel_rfl) ⟨u1, u2⟩ (fun _ => ?_)
            refine wpAnyH_take (i := 0) (v := ?_) rfl (by kernel_rfl) (by kernel_rfl) (by kernel_rfl) (fun _ _ _ h => h) (Or.inl ⟨by rfl, ?_⟩) ⟨u1, u2⟩ ?_
            rotate_left
            · (intro w hSw; (try dsimp only at hSw); go_simp; (try (with_reducible rfl)))
            change wpAnyH _ _ _ _ _ _ _ (Act.put _ (some 72) _) _
            simp only [Act.put, List.setIfInBounds_toArray, List.set_cons_succ, List.set_cons_zero]
            refine wpAnyH_take (i := 1) (v := ?_) rfl (by kernel_rfl) (by kernel_rfl) (by kernel_rfl) (fun _ _ _ h => h) (Or.inl ⟨by rfl, ?_⟩) ⟨u1, u2⟩ ?_
            rotate_left
            · (intro w hSw; (try dsimp only at hSw); go_simp; (try (with_reducible rfl)))
            change wpAnyH _ _ _ _ _ _ _ (Act.put _ (some 73) _) _
            simp only [Act.put, List.setIfInBounds_toArray, List.set_cons_succ, List.set_cons_zero]
            refine wpAnyH_take (i := 2) (v := ?_) rfl (by kernel_rfl) (by kernel_rfl) (by kernel_rfl) (fun _ _ _ h => h) (Or.inl ⟨by rfl, ?_⟩) ⟨u1, u2⟩ ?_
            rotate_left
            · (intro w hSw; (try dsimp only at hSw); go_simp; (try (with_reducible rfl)))
            change wpAnyH _ _ _ _ _ _ _ (Act.put _ (some 74) _) _
            simp only [Act.put, List.setIfInBounds_toArray, List.set_cons_succ, List.set_cons_zero]
            refine wpAnyH_take (i := 3) (v := ?_) rfl (by kernel_rfl) (by kernel_rfl) (by kernel_rfl) (fun _ _ _ h => h) (Or.inl ⟨by rfl, ?_⟩) ⟨u1, u2⟩ ?_
            rotate_left
            · (intro w hSw; (try dsimp only at hSw); go_simp; (try (with_reducible rfl)))
            change wpAnyH _ _ _ _ _ _ _ (Act.put _ (some 75) _) _
            simp only [Act.put, List.setIfInBounds_toArray, List.set_cons_succ, List.set_cons_zero]
            refine wpAnyH_take (i := 4) (v := ?_) rfl (by kernel_rfl) (by kernel_rfl) (by kernel_rfl) (fun _ _ _ h => h) (Or.inl ⟨by rfl, ?_⟩) ⟨u1, u2⟩ ?_
            rotate_left
            · (intro w hSw; (try dsimp only at hSw); go_simp; (try (with_reducible rfl)))
            change wpAnyH _ _ _ _ _ _ _ (Act.put _ (some 76) _) _
            simp only [Act.put, List.setIfInBounds_toArray, List.set_cons_succ, List.set_cons_zero]
            refine wpAnyH_ready (rs := [5]) (by kernel_rfl) (by simp) (AllReadyH.cons rfl (fun K hK => ?_) AllReadyH.nil)
            go_simp
            refine hK.out _ _ (HZ1.out _) (fun hHeld => ?_)
            clear hK K
            refine wpAnyH_take (i := 6) (v := ?_) rfl (by kernel_rfl) (by kernel_rfl) (by kernel_rfl) (fun _ _ _ h => h) (Or.inl ⟨by rfl, ?_⟩) (HZ1.out _) ?_
            rotate_left
            · (intro w hSw; (try dsimp only at hSw); go_simp; (try (with_reducible rfl)))
            change wpAnyH _ _ _ _ _ _ _ (Act.put _ (some 77) _) _
            simp only [Act.put, List.setIfInBounds_toArray, List.set_cons_succ, List.set_cons_zero]
            refine wpAnyH_ready (rs := [7]) (by kernel_rfl) (by simp) (AllReadyH.cons rfl (fun K hK => ?_) AllReadyH.nil)
            go_simp
            refine hK.out _ _ (HZ2.out _ _) (fun hHeld => ?_)
            clear hK K
            refine wpAnyH_done (by kernel_rfl) ?_ _
            go_upto_region 9 with (fail)
            clear t2 t3 z2 z3
            generalize ((W3.setCell ⟨gt, 2, none⟩ (.int .i64 x.client)).setCell ⟨gt, 3, none⟩ (.int .i64 ol)).drew = W4 at *
            have hS3 := hS4
            clear hS4
            have t0 := hBT.at (i := 0) rfl
            have t1 := hBT.at (i := 1) rfl
            have t2 := hBT.at (i := 2) rfl
            have t3 := hBT.at (i := 3) rfl
            have t4 := hBT.at (i := 4) rfl
            have t5 := hBT.at (i := 5) rfl
            have hown := hS3.own
            go_wp2_with (at_builtin; refine wpList_append_own _ rfl (.tmp 78) (.tmp 80) 44 rfl (n + 1) 99 i0 (tv Trd.zero) 6 48 Tryz.underlying44 hi iz0 iz1 iz2 rfl (by decide) _ _ _ rfl (hown.alloc _) ⟨W4.heap.size, 0, none⟩ 1 1 (tc t) rfl rfl ?c1 ?c2 ?c3 ?c4 ?c5 ?_)
            case c1 => first | exact news_new W4 _ _ | exact (fun _ _ h => h) | (intro j u h; simpa using h)
            case c2 => simp [tc, Value.oneCell']
            case c3 => unfold maxLen; omega
            case c4 => omega
            case c5 => have := hS3.box.lt; simp; omega
            intro v' w5 hown1 hg1 _
            rw [← flat_snoc] at hown1
            have c5 := (Chg.refl [] W4).alloc (.cells #[.int .i64 t.maker, .int .i64 t.taker, .int .i64 t.buyer, .int .i64 t.seller, .int .u64 t.price, .int .u64 t.qty] 99)
            have hB5 : Blk w5 gt 99 (tc t) := (hBT.chg c5 (by simp)).grown hg1 (fun e => by have := HOG.out _ e; omega)
            have hS5 : RSt w F n g 0 s false oi ol false op w5 v' (T ++ [t]) q (x :: Q) := (hS3.to c5).grown hg1 (by simpa using hown1)
            clear hS3 hBT hown hown1 hg1 c5 t0 t1 t2 t3 t4 t5
            have b4 := hS5.box.at (i := 4) rfl
            have f4 := hS5.box.free 4
            have t5 : w5.cell? ⟨gt, 5, none⟩ = some (.int .u64 x.qty) := by rw [← HTQ.out]; exact hB5.at (i := 5) rfl
            have HI3 : Hid (MchIs ⟨oi, ol, false, op, oq⟩ oq Q0 (T ++ [t]) (q - x.qty) Q) := by have := HI2.out; rw [HT.out] at this; exact this
            have hS6 := hS5.store (q - x.qty)
            have hB6 := hB5.put ⟨n, 4, none⟩ (.int .u64 (q - x.qty)) (by show gt ≠ n; omega)
            have hokx := HOK.out x (by simp)
            have HOKQ : Hid (∀ z ∈ (x :: Q), z.Ok) := HOK.out
            obtain ⟨qx1, qx2⟩ := hokx.qty
            clear hS5 hB5 HI2 hokx
            have wq : IntKind.u64.wrap (q - x.qty) = q - x.qty := by simp [IntKind.wrap, IntKind.bits, IntKind.signed]; omega
            go_upto_region 11 with (fail)
            clear b4 f4 t5
            generalize w5.setCell _ _ = W6 at *
            have t5 : W6.cell? ⟨gt, 5, none⟩ = some (.int .u64 x.qty) := by rw [← HTQ.out]; exact hB6.at (i := 5) rfl
            go_wp2_with fail
            refine (rCut hS6.sd x.qty ⟨by omega, by omega⟩ HOKQ.out (by rw [HNQ.out]; omega)).mono ?_
            rw [cutQ_cons, if_pos (by omega)]
            rintro e w7 ⟨rfl, s7, hq7, c7, b7, e7⟩
            have hS7 := hS6.cut (by simp) hq7 c7 b7 e7
            clear hS6 hB6 hq7 c7 b7 e7 t5
            obtain ⟨c9, r1, -, -, -, x0, x1, x2, x3, x4⟩ := hS7.sd.at (k := 0) (by simp)
            simp only [Nat.zero_mul, Nat.zero_add] at x0 x1 x2 x3 x4
            have x4' : w7.cell? ⟨s7, 4, none⟩ = some (.int .u64 (0)) := by simpa using x4
            have r1' : w7.cell? ⟨g, 1, none⟩ = some (.slice (some ⟨s7, 0, none⟩) nQ c9) := by rw [← HNQ.out]; exact r1
            clear x0 x1 x2 x3 x4 r1
            go_wp2_with fail
            refine (rDrop hS7.sd (i := 0) (by simp) (by simp; simp at q3; omega)).mono ?_
            rintro e w8 ⟨rfl, s8, hq8, c8, b8, e8⟩
            have hS8 := hS7.cut (by simp) hq8 c8 b8 e8
            rw [erase_zero] at hS8
            clear hS7 hq8 c8 b8 e8 x4' r1'
            have hok9 : Hid (∀ z ∈ Q, z.Ok) := fun z hz => HOKQ.out z (by simp [hz])
            go_wp2_with fail
            go_roundg (gk - 1)
            case measure => have := hn.out; simp at this; omega
            case rel => exact ⟨T ++ [t], (q - x.qty), Q, _, hS8, HI3, by omega, by omega, by simp at q3; omega, hok9, by have := hn.out; rw [if_pos h0] at this; show _ ≤ _; simp at this ⊢; (first | omega | (split <;> omega))⟩
    · obtain rfl : q = 0 := by omega
      have HF := Lib.hid hI.out.zero
      clear hI
      have z4 := hS.box.at (i := 4) rfl
      have HST := Lib.hid hS
      obtain ⟨a, cap, rfl, hN⟩ := own_new HST.out.own
      have HNN := Lib.hid hN
      clear hN hS
      go_wp2_with fail
      go_quiet (fail)
      go_wp2_with fail
      have hfin : mres ⟨oi, ol, false, op, oq⟩ L M = (T, 0, Q) := HR.out.trans HF.out
      have hret : Ending.returned (.tuple #[.slice a T.length cap, .int .u64 0]) = Ending.returned (.tuple #[.slice a (mres ⟨oi, ol, false, op, oq⟩ L M).1.length cap, .int .u64 (mres ⟨oi, ol, false, op, oq⟩ L M).2.1]) := by rw [hfin]
      have hS9 := HST.out.to ((Chg.refl [] _).drewN nq)
      have hpost : NewF tc (wr.drewN nq) w.heap.size 99 a (mres ⟨oi, ol, false, op, oq⟩ L M).1 ∧ Rbk (wr.drewN nq) F g (mL ⟨oi, ol, false, op, oq⟩ L M) (mM ⟨oi, ol, false, op, oq⟩ L M) ∧ Chg [g] w (wr.drewN nq) := by
        refine ⟨by rw [hfin, HG.out]; exact (HNN.out.mono (Nat.le_succ n)).chg0 ((Chg.refl [] _).drewN nq), ?_, hS9.chg⟩
        have hm1 : mL ⟨oi, ol, false, op, oq⟩ L M = Q := by unfold mL; rw [hfin]; rfl
        have hm2 : mM ⟨oi, ol, false, op, oq⟩ L M = M := by rfl
        rw [hm1, hm2]
        exact HB.out _ _ hS9.rsd hS9.chg hS9.but
      go_ret2
      exact ⟨a, cap, hret, hpost⟩

end Go.Proofs.YteabcpmpcbjicaaGreat

namespace Go.Proofs.YteabcpmpcbjicaaGreat
set_option linter.unusedVariables false
open Go Go.Proofs Go.RowKit
attribute [local go_sem ↓] Go.wp_at_zero Go.wp_at_succ

/-- SameTrades, of the same. -/
theorem rSameT {w : World} {B1 B2 : Nat} {a1 a2 : Option Addr} {c1 c2 : Nat} {T : List Trd} (h1 : NewF tc w B1 99 a1 T) (h2 : NewF tc w B2 99 a2 T) (n : Nat) (hn : T.length = n) (hm : n ≤ 1000000000000) :
    Calls Tryz.prog 86 #[.slice a1 n c1, .slice a2 n c2] w fun e w' => e = .returned (.bool true) ∧ Chg [] w w' := by
  have HN := Lib.hid hn
  clear hn
  go_enter Tryz.func86, Tryz.ntmps86
  go_wp2_with fail
  go_loopw [5] (fun i wr => ∃ j : Nat, j ≤ n ∧ i = .int .i64 j ∧ Chg [] w wr) (fun i _ => n - (intOf i).toNat)
  case atStart => exact ⟨0, by omega, rfl, Chg.refl _ _⟩
  case round =>
    obtain ⟨j, hj, rfl, hc⟩ := hrel
    by_cases hlt : j < n
    · have hl : j < T.length := by rw [HN.out]; exact hlt
      obtain ⟨g1, rfl, -, -, x0, x1, x2, x3, x4, x5⟩ := tr_at (h1.chg0 hc) hl
      obtain ⟨g2, rfl, -, -, y0, y1, y2, y3, y4, y5⟩ := tr_at (h2.chg0 hc) hl
      generalize T.getD j Trd.zero = u at *
      have i1 : (0 : Int) ≤ (j : Int) := by omega
      have i2 : (j : Int) < (n : Int) := by omega
      clear hl
      go_wp2_with fail
      go_quiet (fail)
      go_wp2_with fail
      go_roundw
      case rel => exact ⟨j + 1, by omega, by go_num, hc.drewN _⟩
      case measure => simp [intOf]; omega
    · go_wp2_with fail
      go_ret
      exact ⟨rfl, hc⟩

theorem Rbk.sub {w : World} {F F' : List Nat} {g : Nat} {L M : List Ord} (h : Rbk w F' g L M) (hs : ∀ x ∈ F, x ∈ F') : Rbk w F g L M :=
  ⟨h.b.elim fun s ⟨h1, h2⟩ => ⟨s, h1, h2.imp (fun z => z) fun z => ⟨z.1, fun hm => z.2 (hs _ hm)⟩⟩, h.a.elim fun s ⟨h1, h2⟩ => ⟨s, h1, h2.imp (fun z => z) fun z => ⟨z.1, fun hm => z.2 (hs _ hm)⟩⟩, fun x hx => h.fr x (hs x hx), fun hm => h.ne (hs _ hm)⟩
/-- A new block is none of it. -/
theorem Rbk.box {w w' : World} {F : List Nat} {g b : Nat} {L M : List Ord} (h : Rbk w F g L M) (c : Chg [] w w') (hb : w.heap.size ≤ b) (hb' : b < w'.heap.size) : Rbk w' (b :: F) g L M :=
  h.far c (by simp) (fun x hx => (List.mem_cons.1 hx).elim (fun e => .inr (by omega)) fun h => .inl h) fun x hx => (List.mem_cons.1 hx).elim (fun e => by omega) fun hm => by have := h.fr x hm; have := c.size; omega
theorem rbMatch_is {w : World} {F : List Nat} {g : Nat} {L M : List Ord} (h : Rbk w F g L M) (o : Ord) (T : List Trd) (q : Int) (hr : (mres o L M).1 = T ∧ (mres o L M).2.1 = q) (ho : o.Ok) (hok : ∀ x ∈ L ++ M, x.Ok) (zL : L.length < 999999999) (zM : M.length < 999999999) :
    Calls Tryz.prog 172 #[.pointer (some ⟨g, 0, none⟩), ov o] w fun e w' => ∃ a c, e = .returned (.tuple #[.slice a T.length c, .int .u64 q]) ∧ NewF tc w' w.heap.size 99 a T ∧ Rbk w' F g (mL o L M) (mM o L M) ∧ Chg [g] w w' := by
  obtain ⟨rfl, rfl⟩ := hr
  obtain ⟨oi, ol, ob, op, oq⟩ := o
  cases ob
  · exact rbMatchF h oi ol op oq ho (fun x hx => hok x (by simp [hx])) zL
  · exact rbMatchT h oi ol op oq ho (fun x hx => hok x (by simp [hx])) zM
theorem rbRemove_is {w : World} {F : List Nat} {g : Nat} {L M : List Ord} (h : Rbk w F g L M) (iL : Ids L) (iM : Ids M) (id : Int) (x : Ord) (ok : Bool) (hr : pickB id L M = (x, ok)) (zL : L.length ≤ 1000000000000) (zM : M.length ≤ 1000000000000) :
    Calls Tryz.prog 171 #[.pointer (some ⟨g, 0, none⟩), .int .i64 id] w fun e w' => e = .returned (.tuple #[ov x, .bool ok]) ∧ Rbk w' F g (sans id L) (remM id L M) ∧ Chg [g] w w' := by
  have := rbRemove h iL iM id zL zM
  rwa [hr] at this
theorem rbFind_is {w : World} {F : List Nat} {g : Nat} {L M : List Ord} (h : Rbk w F g L M) (iL : Ids L) (iM : Ids M) (id : Int) (x : Ord) (ok : Bool) (hr : pickB id L M = (x, ok)) (zL : L.length ≤ 1000000000000) (zM : M.length ≤ 1000000000000) :
    Calls Tryz.prog 170 #[.pointer (some ⟨g, 0, none⟩), .int .i64 id] w fun e w' => e = .returned (.tuple #[ov x, .bool ok]) ∧ Chg [] w w' := by
  have := rbFind h iL iM id zL zM
  rwa [hr] at this
theorem Fresh.two {n : Nat} {L M : List Ord} (h : Fresh n L M) : Ids L ∧ Ids M := by
  have hi := h.ids
  unfold Ids at hi ⊢
  rw [List.map_append] at hi
  obtain ⟨h1, h2, _⟩ := List.nodup_append.1 hi
  exact ⟨h1, h2⟩
theorem Rbk.rows {w : World} {F : List Nat} {g : Nat} {L M : List Ord} (h : Rbk w F g L M) : ∃ a c a' c', w.cell? ⟨g, 1, none⟩ = some (.slice a L.length c) ∧ Osq w a L ∧ w.cell? ⟨g, 3, none⟩ = some (.slice a' M.length c') ∧ Osq w a' M := by
  obtain ⟨s, h1, _⟩ := h.b
  obtain ⟨t, h2, _⟩ := h.a
  obtain ⟨a, c, x1, _, _, x2⟩ := h1.osq
  obtain ⟨a', c', y1, _, _, y2⟩ := h2.osq
  exact ⟨a, c, a', c', x1, x2, y1, y2⟩
theorem remM_len (k : Int) (L M : List Ord) : (remM k L M).length ≤ M.length := by
  unfold remM; split
  · omega
  · exact (sans_sub _ _).length_le
end Go.Proofs.YteabcpmpcbjicaaGreat
