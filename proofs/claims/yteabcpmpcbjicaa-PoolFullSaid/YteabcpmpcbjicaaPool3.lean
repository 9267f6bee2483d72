
import Derived.Test.YteabcpmpcbjicaaPool2
namespace Go.Proofs.Yteabcpmpcbjicaa
set_option linter.unusedVariables false
set_option maxRecDepth 100000
open Go Go.Proofs Go.RowKit Go.Maps
attribute [local go_sem ↓] Go.wp_at_zero Go.wp_at_succ

/-- A row of envelopes as a slice: none, or in a block. -/
def Nsl (w : World) (a : Option Addr) (cap : Nat) (L : List Env) : Prop := (a = none ∧ cap = 0 ∧ L = []) ∨ ∃ g, a = some ⟨g, 0, none⟩ ∧ Nrow w g L
theorem Nsl.chg {w w' : World} {a : Option Addr} {cap : Nat} {L : List Env} {S : List Nat} (h : Nsl w a cap L) (c : Chg S w w') (hs : ∀ z ∈ S, ∀ o, a = some o → o.block ≠ z) : Nsl w' a cap L :=
  h.imp id fun ⟨g, e, k⟩ => ⟨g, e, k.chg c (fun hm => hs g hm _ e rfl)⟩
theorem Nsl.row {w : World} {a : Option Addr} {cap : Nat} {L : List Env} (h : Nsl w a cap L) : ∃ s, L = [] ∨ (a = some ⟨s, 0, none⟩ ∧ Nrow w s L) := by
  rcases h with ⟨_, _, h⟩ | ⟨g, h1, h2⟩
  · exact ⟨0, .inl h⟩
  · exact ⟨g, .inr ⟨h1, h2⟩⟩
theorem own_nsl {w : World} {base n : Nat} {v : Value} {L : List Env} (h : w.ownsRow base 32 4 v n (flat nc L)) : ∃ a cap, v = .slice a n cap ∧ L.length = n ∧ Nsl w a cap L ∧ ∀ o, a = some o → base ≤ o.block ∧ o.block < w.heap.size := by
  rcases own_erow h with ⟨h1, h2, h3⟩ | ⟨g, cap, h1, h2, h3, h4⟩
  · exact ⟨none, 0, by rw [h1, h2], by rw [h3, h2]; rfl, .inl ⟨rfl, rfl, h3⟩, fun o ho => by cases ho⟩
  · exact ⟨_, cap, h1, h3, .inr ⟨g, rfl, h4.beg⟩, fun o ho => by injection ho with ho; subst ho; exact ⟨h2, h4.lt⟩⟩
set_option maxHeartbeats 1000000 in
theorem envClone {w : World} {a : Option Addr} {n cap : Nat} {L : List Env} (hl : L.length = n) (hn : n ≤ 1000000000) (h : Nsl w a cap L) :
    Calls Try.prog 64 #[.slice a n cap] w fun e w' => ∃ v, e = .returned v ∧ w'.ownsRow w.heap.size 32 4 v n (flat nc L) ∧ Chg [] w w' := by
  rcases h with ⟨rfl, rfl, rfl⟩ | ⟨g, rfl, h⟩
  · simp at hl
    subst hl
    have heq : (binOp .eql 29 (.slice none 0 0) (.slice none 0 0)).run Try.prog w = .ok (.bool true) w := run_eql_nil_slice w 29 32 none 0 0 0 0 Try.underlying29
    go_enter Try.func64, Try.ntmps64
    go_wp2_with fail
    go_ret
    exact ⟨_, rfl, ⟨by simp [flat], .inl ⟨rfl, rfl⟩⟩, Chg.refl _ _⟩
  · obtain ⟨i0, hi, hz0, hz1, hz2⟩ := info_parts info_env
    have heq := run_slice_nil (P := Try.prog) Try.underlying29
    have hfl := flat_len nc_len L
    rw [hl] at hfl
    go_enter Try.func64, Try.ntmps64
    go_wp2_with (at_builtin; refine wpList_append_own _ rfl (.tmp 5) (.tmp 6) 29 rfl w.heap.size 32 i0 (nv Env.zero) 4 32 Try.underlying29 hi hz0 hz1 hz2 rfl (by decide) _ 0 [] rfl (own_empty _ _ _ (Nat.le_refl _)) ⟨g, 0, none⟩ n cap (flat nc L) rfl ?c0 ?c1 ?c2 ?c3 ?c4 ?c5 ?_)
    case c0 => exact hfl
    case c1 => intro j u hj; rw [add_none, Nat.zero_add]; exact Beg.at (h.alloc _) hj
    case c2 => exact flat_one L
    case c3 => unfold maxLen; omega
    case c4 => omega
    case c5 => simp
    intro v' w1 hown hg hnil
    have hc1 : Chg [] w w1 := ((Chg.refl _ _).alloc _).grown hg (fun k hk => by simp [Value.ownBlock] at hk; omega)
    obtain ⟨a, c, hv⟩ := own_slice hown
    subst hv
    go_wp2_with fail
    go_ret
    exact ⟨_, rfl, by simpa using hown, hc1⟩
/-- Whether none with a lower nonce of its client waits. -/
def lowst (l : List Env) (e : Env) : Bool := !(l.any (lowr e))
set_option maxHeartbeats 1000000 in
theorem firstLit {w : World} {g n cap : Nat} {a : Option Addr} {L : List Env} (hg : w.cell? ⟨g, 0, none⟩ = some (.slice a n cap)) (hl : L.length = n) (hn : n ≤ 1000000000) (h : Nsl w a cap L) (x : Env) :
    Calls Try.prog 112 #[nv x, .pointer (some ⟨g, 0, none⟩)] w fun y w' => y = .returned (.bool (lowst L x)) ∧ Chg [] w w' := by
  have hbx : Blk (w.alloc (.cells #[.int .i64 x.client, .int .u64 x.nonce, .int .u64 x.fee, .int .i64 x.cipher] 32)) w.heap.size 32 (nc x) := Blk.new w (nc x) 32
  have cA : Chg [] w (w.alloc (.cells #[.int .i64 x.client, .int .u64 x.nonce, .int .u64 x.fee, .int .i64 x.cipher] 32)) := (Chg.refl _ _).alloc _
  have hg2 := cA.cell hg (by simp)
  obtain ⟨s, hs⟩ := (h.chg cA (by simp)).row
  obtain ⟨b, hb⟩ : ∃ b, L.any (lowr x) = b := ⟨_, rfl⟩
  have HB := Lib.hid hb
  have HS := Lib.hid hs
  have HC := Lib.hid cA
  have HL := Lib.hid hl
  have hbl := hbx.lt
  clear h hs hb cA hl
  go_enter Try.func112, Try.ntmps112
  go_upto_region 1 with (fail)
  generalize w.heap.size = b1 at *
  generalize w.alloc _ = w1 at *
  go_wp2_with fail
  refine (envContains_lower (cap := cap) HL.out (.pointer (some ⟨b1, 0, none⟩)) (lowr x) hn HS.out (fun wx cx y hy => lowerLit (hbx.chg cx (by simp)) y) b HB.out).mono ?_
  rintro y w2 ⟨rfl, cc⟩
  go_wp2_with fail
  go_ret
  exact ⟨by unfold lowst; rw [HB.out]; rfl, HC.out.trans cc⟩
set_option maxHeartbeats 1000000 in
theorem pFirst {w : World} {n cap : Nat} {a : Option Addr} {L : List Env} (hl : L.length = n) (hn : n ≤ 1000000000) (h : Nsl w a cap L) :
    Calls Try.prog 75 #[.slice a n cap] w fun y w' => y = .returned (.int .i64 (idxE (lowst L) L)) ∧ Chg [] w w' := by
  have hbx : Blk (w.alloc (.cells #[.slice a n cap] 29)) w.heap.size 29 [.slice a n cap] := Blk.new w _ _
  have cA : Chg [] w (w.alloc (.cells #[.slice a n cap] 29)) := (Chg.refl _ _).alloc _
  have hN := h.chg cA (by simp)
  obtain ⟨s, hs⟩ := hN.row
  have HS := Lib.hid hs
  have HN := Lib.hid hN
  have HC := Lib.hid cA
  have HL := Lib.hid hl
  clear h hs hN cA hl
  go_enter Try.func75, Try.ntmps75
  go_upto_region 1 with (fail)
  generalize w.heap.size = b1 at *
  generalize w.alloc _ = w1 at *
  have y0 := hbx.at (i := 0) rfl
  go_wp2_with fail
  refine (envIndex_first (cap := cap) HL.out (.pointer (some ⟨b1, 0, none⟩)) (lowst L) hn HS.out (fun wx cx y hy => firstLit (cx.cell y0 (by simp)) HL.out hn (HN.out.chg cx (by simp)) y)).mono ?_
  rintro y w2 ⟨rfl, cc⟩
  go_wp2_with fail
  go_ret
  exact ⟨rfl, HC.out.trans cc⟩
/-! A pool in memory. -/
structure PoM (w : World) (g p : Nat) (F : List Nat) (most : Int) (L : List Env) : Prop where
  hd : ∃ v, Blk w p 125 [.pointer (some ⟨g, 0, none⟩), .int .i64 most, v] ∧ w.ownsRow (p + 1) 32 4 v L.length (flat nc L) ∧ ∀ k, v.ownBlock = some k → k ∈ F
  inF : p ∈ F
  lo : ∀ z ∈ F, p ≤ z
  lt : ∀ z ∈ F, z < w.heap.size
theorem PoM.aside {w w' : World} {g p : Nat} {F S : List Nat} {most : Int} {L : List Env} (h : PoM w g p F most L) (c : Chg S w w') (hs : ∀ z ∈ S, z ∉ F) : PoM w' g p F most L := by
  obtain ⟨v, hb, ho, hv⟩ := h.hd
  exact ⟨⟨v, hb.chg c (fun hm => hs p hm h.inF), own_chg2 ho c (fun k hk hm => hs k hm (hv k hk)), hv⟩, h.inF, h.lo, fun z hz => Nat.lt_of_lt_of_le (h.lt z hz) c.size⟩
theorem PoM.to {w w' : World} {g p : Nat} {F : List Nat} {most : Int} {L : List Env} (h : PoM w g p F most L) (c : Chg [] w w') : PoM w' g p F most L := h.aside c (by simp)
theorem pNew (w : World) (g : Nat) (m : Int) (h0 : 0 ≤ m) (h1 : m ≤ 1000) : Calls Try.prog 17 #[.pointer (some ⟨g, 0, none⟩), .int .i64 m] w fun y w' => y = .returned (.pointer (some ⟨w.heap.size, 0, none⟩)) ∧ PoM w' g w.heap.size [w.heap.size] m [] ∧ Chg [] w w' := by
  have e1 : max m 0 = m := by omega
  have e2 : min m 1000 = m := by omega
  go_enter Try.func17, Try.ntmps17
  go_wp2_with fail
  go_ret
  have hb := Blk.new w [.pointer (some ⟨g, 0, none⟩), .int .i64 m, .slice none 0 0] 125
  exact ⟨rfl, ⟨⟨_, by simpa using hb, ⟨by simp [flat], .inl ⟨rfl, rfl⟩⟩, fun k hk => by simp [Value.ownBlock] at hk⟩, by simp, by simp, by simp⟩, (Chg.refl _ _).alloc _⟩
theorem pLen {w : World} {g p : Nat} {F : List Nat} {most : Int} {L : List Env} (h : PoM w g p F most L) (n : Int) (hn : (L.length : Int) = n) : Calls Try.prog 21 #[.pointer (some ⟨p, 0, none⟩)] w fun y w' => y = .returned (.int .i64 n) ∧ w = w' := by
  obtain ⟨v, hb, ho, hv⟩ := h.hd
  obtain ⟨a, c, rfl⟩ := own_slice ho
  have d2 := hb.at (i := 2) rfl
  have HN := Lib.hid hn
  clear hn
  go_enter Try.func21, Try.ntmps21
  go_wp2_with fail
  go_ret
  exact ⟨by rw [← HN.out]; rfl, rfl⟩
theorem pAll {w : World} {g p : Nat} {F : List Nat} {most : Int} {L : List Env} (h : PoM w g p F most L) {n : Nat} (hn : L.length = n) (hL : n ≤ 1000000000) : Calls Try.prog 20 #[.pointer (some ⟨p, 0, none⟩)] w fun y w' => ∃ v, y = .returned v ∧ w'.ownsRow w.heap.size 32 4 v n (flat nc L) ∧ Chg [] w w' := by
  obtain ⟨v, hb, ho, hv⟩ := h.hd
  rw [hn] at ho
  obtain ⟨a, c, rfl, hl, hs, -⟩ := own_nsl ho
  have d2 := hb.at (i := 2) rfl
  have HN := Lib.hid hn
  have HO := Lib.hid ho
  clear hn ho hl
  go_enter Try.func20, Try.ntmps20
  go_wp2_with fail
  refine (envClone HN.out hL hs).mono ?_
  rintro y w2 ⟨v, rfl, ho2, cc⟩
  go_wp2_with fail
  go_ret
  exact ⟨v, rfl, ho2, cc⟩
set_option maxHeartbeats 1000000 in
theorem pTaken {w : World} {g p : Nat} {F : List Nat} {most : Int} {L : List Env} (h : PoM w g p F most L) (hL : L.length ≤ 1000000000) (e : Env) (b : Bool) (hb : L.any (tkn e) = b) :
    Calls Try.prog 60 #[.pointer (some ⟨p, 0, none⟩), nv e] w fun y w' => y = .returned (.bool b) ∧ Chg [] w w' := by
  obtain ⟨n, hn⟩ : ∃ n, L.length = n := ⟨_, rfl⟩
  have hbx : Blk (w.alloc (.cells #[.int .i64 e.client, .int .u64 e.nonce, .int .u64 e.fee, .int .i64 e.cipher] 32)) w.heap.size 32 (nc e) := Blk.new w (nc e) 32
  have cA : Chg [] w (w.alloc (.cells #[.int .i64 e.client, .int .u64 e.nonce, .int .u64 e.fee, .int .i64 e.cipher] 32)) := (Chg.refl _ _).alloc _
  obtain ⟨v, hd, ho, hv⟩ := (h.to cA).hd
  rw [hn] at ho hL
  obtain ⟨a, c, rfl, hl, hs, -⟩ := own_nsl ho
  obtain ⟨s, hs⟩ := hs.row
  have d2 := hd.at (i := 2) rfl
  have HN := Lib.hid hn
  have HS := Lib.hid hs
  have HB := Lib.hid hb
  have HC := Lib.hid cA
  clear hn ho hl hs hb cA h hv
  go_enter Try.func60, Try.ntmps60
  go_upto_region 1 with (fail)
  generalize w.heap.size = b1 at *
  generalize w.alloc _ = w1 at *
  go_wp2_with fail
  refine (envContains_taken (cap := c) HN.out (.pointer (some ⟨b1, 0, none⟩)) (tkn e) hL HS.out (fun wx cx y hy => takenLit (hbx.chg cx (by simp)) y) b HB.out).mono ?_
  rintro y w2 ⟨rfl, cc⟩
  go_wp2_with fail
  go_ret
  exact ⟨rfl, HC.out.trans cc⟩
end Go.Proofs.Yteabcpmpcbjicaa
