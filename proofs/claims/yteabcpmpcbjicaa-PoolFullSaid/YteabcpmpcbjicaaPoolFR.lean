
import Derived.Test.YteabcpmpcbjicaaRow5
import Derived.Deep.DrawnRows
import Derived.Deep.RegionHeld3
namespace Go.Proofs.Yteabcpmpcbjicaa
set_option linter.unusedVariables false
set_option maxRecDepth 100000
set_option linter.unusedSimpArgs false
open Go Go.Proofs Go.RowKit Go.Maps
attribute [local go_sem ↓] Go.wp_at_zero Go.wp_at_succ

theorem Erw.row {w : World} {g n c : Nat} {L : List Env} (h : Erw w (.slice (some ⟨g, 0, none⟩) n c) L) (hn : 0 < n) : Nrow w g L := by
  obtain ⟨g', e, _, k⟩ := h.cap hn
  injection e with e
  injection e with e1
  subst e1
  exact k
theorem EAt.nil {w : World} {M : List Env} (ad : Addr) (h : M = []) : EAt w ad M := fun j u hu => by rw [h] at hu; simp [flat] at hu
set_option maxRecDepth 1000000 in
set_option maxHeartbeats 8000000 in
theorem full_regA {Q : Exit → Act → World → Prop} {u0 u1 u2 u3 u4 u5 u6 u7 u9 u11 u13 u14 u15 u16 u17 u18 u19 u20 u21 u22 u23 u24 u25 u26 u27 u28 u29 u30 u31 u32 u33 u34 u35 u36 u37 u38 u39 u40 u41 u42 u43 u44 u45 u46 u47 u48 u49 u50 u51 u52 u53 u54 u55 u56 u57 u58 u59 u60 u61 u62 u63 u64 u65 u66 u67 u68 u69 u70 u71 u72 u73 u74 u75 u76 u77 u78 u79 u80 u81 u82 u83 u84 u85 u86 u87 u88 u89 u90 u91 u92 u93 u94 u95 u96 u97 u98 u99 u100 u101 u102 u103 u104 u105 u106 u107 u108 u109 u110 u111 u112 u113 u114 u115 u116 u117 u118 u119 u120 u121 u122 u123 u124 u125 u126 u127 u128 u129 u130 u131 u132 u133 u134 u135 u136 u137 u138 u139 u140 u141 u142 u143 u144 u145 u146 : Value} (hP : ∀ c a d v w, Q (.panic c) (Act.put a d v) w → Q (.panic c) a w) {b g8 n c8 k : Nat} {e : Env} {L : List Env} {W : World} (HE : Hid (Blk W b 32 (nc e))) (H8 : Hid (Erw W (.slice (some ⟨g8, 0, none⟩) n c8) L)) (HN : Hid (L.length = n)) (hn0 : 0 < n) (hn8 : n ≤ 8) (hk : k < n) (hnc : n ≤ c8) (wk : IntKind.i64.wrap ((k : Int) + 1) = (k : Int) + 1) (k0 : (0 : Int) ≤ (k : Int)) (k1 : (k : Int) ≤ ((n : Nat) : Int)) (k2 : (k : Int) ≤ ((c8 : Nat) : Int)) (k3 : (0 : Int) ≤ (k : Int) + 1) (k4 : (k : Int) + 1 ≤ ((n : Nat) : Int)) (k5 : (k : Int) + 1 ≤ ((c8 : Nat) : Int)) (k6 : ((n : Nat) : Int) ≤ ((c8 : Nat) : Int)) (hc1 : ¬ c8 = k + 1)
    (hQ : ∀ (v : World) (v3 : Value) (_ : Erw v v3 (L.take k ++ L.drop (k + 1) ++ [e])) (_ : Chg [] W v) (_ : ∀ z ∈ obl v3, W.heap.size ≤ z) (x104 x105 x106 x107 x108 x109 x110 x111 x112 x113 x114 x115 x116 : Value), Q .normal ⟨#[u0, u1, u2, u3, u4, u5, u6, u7, v3, u9, .pointer (some ⟨b, 0, none⟩), u11, .int .i64 k, u13, u14, u15, u16, u17, u18, u19, u20, u21, u22, u23, u24, u25, u26, u27, u28, u29, u30, u31, u32, u33, u34, u35, u36, u37, u38, u39, u40, u41, u42, u43, u44, u45, u46, u47, u48, u49, u50, u51, u52, u53, u54, u55, u56, u57, u58, u59, u60, u61, u62, u63, u64, u65, u66, u67, u68, u69, u70, u71, u72, u73, u74, u75, u76, u77, u78, u79, u80, u81, u82, u83, u84, u85, u86, u87, u88, u89, u90, u91, u92, u93, u94, u95, u96, u97, u98, u99, u100, u101, u102, u103, x104, x105, x106, x107, x108, x109, x110, x111, x112, x113, x114, x115, x116, u117, u118, u119, u120, u121, u122, u123, u124, u125, u126, u127, u128, u129, u130, u131, u132, u133, u134, u135, u136, u137, u138, u139, u140, u141, u142, u143, u144, u145, u146], []⟩ v) :
    Code.wp Try.prog (regionOf Try.f3 28) Q ⟨#[u0, u1, u2, u3, u4, u5, u6, u7, .slice (some ⟨g8, 0, none⟩) n c8, u9, .pointer (some ⟨b, 0, none⟩), u11, .int .i64 k, u13, u14, u15, u16, u17, u18, u19, u20, u21, u22, u23, u24, u25, u26, u27, u28, u29, u30, u31, u32, u33, u34, u35, u36, u37, u38, u39, u40, u41, u42, u43, u44, u45, u46, u47, u48, u49, u50, u51, u52, u53, u54, u55, u56, u57, u58, u59, u60, u61, u62, u63, u64, u65, u66, u67, u68, u69, u70, u71, u72, u73, u74, u75, u76, u77, u78, u79, u80, u81, u82, u83, u84, u85, u86, u87, u88, u89, u90, u91, u92, u93, u94, u95, u96, u97, u98, u99, u100, u101, u102, u103, u104, u105, u106, u107, u108, u109, u110, u111, u112, u113, u114, u115, u116, u117, u118, u119, u120, u121, u122, u123, u124, u125, u126, u127, u128, u129, u130, u131, u132, u133, u134, u135, u136, u137, u138, u139, u140, u141, u142, u143, u144, u145, u146], []⟩ W := by
  conv => arg 2; whnf
  have lb := HE.out.lt
  have hlt8 := H8.out.lt
  refine wp_region_held_drew (S := (fun w' => w'.cell? ⟨b, 0, none⟩ = some (.int .i64 e.client) ∧ w'.cell? ⟨b, 1, none⟩ = some (.int .u64 e.nonce) ∧ w'.cell? ⟨b, 2, none⟩ = some (.int .u64 e.fee) ∧ w'.cell? ⟨b, 3, none⟩ = some (.int .i64 e.cipher))) (by kernel_rfl) ⟨HE.out.at (i := 0) rfl, HE.out.at (i := 1) rfl, HE.out.at (i := 2) rfl, HE.out.at (i := 3) rfl⟩ (fun _ => ?_)
  have hS : W.drew.cell? ⟨b, 0, none⟩ = some (.int .i64 e.client) ∧ W.drew.cell? ⟨b, 1, none⟩ = some (.int .u64 e.nonce) ∧ W.drew.cell? ⟨b, 2, none⟩ = some (.int .u64 e.fee) ∧ W.drew.cell? ⟨b, 3, none⟩ = some (.int .i64 e.cipher) := ⟨HE.out.at (i := 0) rfl, HE.out.at (i := 1) rfl, HE.out.at (i := 2) rfl, HE.out.at (i := 3) rfl⟩
  have chW : Chg [] W W.drew := (Chg.refl _ W).drew
  have W8_0 := (H8.out.chg ((Chg.refl [] W).drew) (by simp))
  generalize hWD : W.drew = v0 at *
  refine wpAnyH_take (i := 1) (v := ?_) rfl (by kernel_rfl) (by kernel_rfl) (by kernel_rfl) (fun c a w h => hP c a _ _ w h) (Or.inl ⟨by rfl, ?_⟩) hS ?_
  rotate_left
  · (intro w hSw; (try dsimp only at hSw); go_simp; (try (with_reducible rfl)))
  change wpAnyH _ _ _ _ _ _ _ (Act.put _ (some 105) _) _
  simp only [Act.put, List.setIfInBounds_toArray, List.set_cons_succ, List.set_cons_zero]
  refine wpAnyH_take (i := 2) (v := ?_) rfl (by kernel_rfl) (by kernel_rfl) (by kernel_rfl) (fun c a w h => hP c a _ _ w h) (Or.inl ⟨by rfl, ?_⟩) hS ?_
  rotate_left
  · (intro w hSw; (try dsimp only at hSw); go_simp; (try (with_reducible rfl)))
  change wpAnyH _ _ _ _ _ _ _ (Act.put _ (some 106) _) _
  simp only [Act.put, List.setIfInBounds_toArray, List.set_cons_succ, List.set_cons_zero]
  refine wpAnyH_take (i := 3) (v := ?_) rfl (by kernel_rfl) (by kernel_rfl) (by kernel_rfl) (fun c a w h => hP c a _ _ w h) (Or.inl ⟨by rfl, ?_⟩) hS ?_
  rotate_left
  · (intro w hSw; (try dsimp only at hSw); go_simp; (try (with_reducible rfl)))
  change wpAnyH _ _ _ _ _ _ _ (Act.put _ (some 107) _) _
  simp only [Act.put, List.setIfInBounds_toArray, List.set_cons_succ, List.set_cons_zero]
  refine wpAnyH_take (i := 5) (v := ?_) rfl (by kernel_rfl) (by kernel_rfl) (by kernel_rfl) (fun c a w h => hP c a _ _ w h) (Or.inl ⟨by rfl, ?_⟩) hS ?_
  rotate_left
  · (intro w hSw; (try dsimp only at hSw); go_simp; (try (with_reducible rfl)))
  change wpAnyH _ _ _ _ _ _ _ (Act.put _ (some 109) _) _
  simp only [Act.put, List.setIfInBounds_toArray, List.set_cons_succ, List.set_cons_zero]
  refine wpAnyH_take (i := 6) (v := ?_) rfl (by kernel_rfl) (by kernel_rfl) (by kernel_rfl) (fun c a w h => hP c a _ _ w h) (Or.inl ⟨by rfl, ?_⟩) hS ?_
  rotate_left
  · (intro w hSw; (try dsimp only at hSw); go_simp; (try (with_reducible rfl)))
  change wpAnyH _ _ _ _ _ _ _ (Act.put _ (some 110) _) _
  simp only [Act.put, List.setIfInBounds_toArray, List.set_cons_succ, List.set_cons_zero]
  refine wpAnyH_take (i := 7) (v := ?_) rfl (by kernel_rfl) (by kernel_rfl) (by kernel_rfl) (fun c a w h => hP c a _ _ w h) (Or.inl ⟨by rfl, ?_⟩) hS ?_
  rotate_left
  · (intro w hSw; (try dsimp only at hSw); go_simp; (try (with_reducible rfl)))
  change wpAnyH _ _ _ _ _ _ _ (Act.put _ (some 111) _) _
  simp only [Act.put, List.setIfInBounds_toArray, List.set_cons_succ, List.set_cons_zero]
  refine wpAnyH_take (i := 8) (v := ?_) rfl (by kernel_rfl) (by kernel_rfl) (by kernel_rfl) (fun c a w h => hP c a _ _ w h) (Or.inl ⟨by rfl, ?_⟩) hS ?_
  rotate_left
  · (intro w hSw; (try dsimp only at hSw); go_simp; (try (with_reducible rfl)))
  change wpAnyH _ _ _ _ _ _ _ (Act.put _ (some 112) _) _
  simp only [Act.put, List.setIfInBounds_toArray, List.set_cons_succ, List.set_cons_zero]
  refine wpAnyH_take (i := 10) (v := ?_) rfl (by kernel_rfl) (by kernel_rfl) (by kernel_rfl) (fun c a w h => hP c a _ _ w h) (Or.inl ⟨by rfl, ?_⟩) hS ?_
  rotate_left
  · (intro w hSw; (try dsimp only at hSw); go_simp; (try (with_reducible rfl)))
  change wpAnyH _ _ _ _ _ _ _ (Act.put _ (some 114) _) _
  simp only [Act.put, List.setIfInBounds_toArray, List.set_cons_succ, List.set_cons_zero]
  refine wpAnyH_ready (rs := [0, 11]) (by kernel_rfl) (by simp) (AllReadyH.cons rfl (fun K hK => ?_) (AllReadyH.cons rfl (fun K hK => ?_) (AllReadyH.nil)))
  · skip
    have hS01 := hS
    have cc1 : Chg [] v0 (v0.alloc (.cells #[] 32)) := (Chg.refl _ _).alloc _
    have Bg104 : Blk (v0.alloc (.cells #[] 32)) v0.heap.size 32 [] := Blk.new _ _ _
    have Lg104 := chW.size
    have R01 : Erw (v0.alloc (.cells #[] 32)) (.slice (some ⟨v0.heap.size, 0, none⟩) 0 0) [] := Erw.fresh (Blk.new v0 [] 32)
    have sz_1 := cc1.size
    go_simp
    generalize hg104 : v0.heap.size = g104 at *
    generalize v0.alloc _ = v1 at *
    have W81 := W8_0.chg cc1 (by simp)
    have hS1 : v1.cell? ⟨b, 0, none⟩ = some (.int .i64 e.client) ∧ v1.cell? ⟨b, 1, none⟩ = some (.int .u64 e.nonce) ∧ v1.cell? ⟨b, 2, none⟩ = some (.int .u64 e.fee) ∧ v1.cell? ⟨b, 3, none⟩ = some (.int .i64 e.cipher) := ⟨cc1.cell hS.1 (by simp), cc1.cell hS.2.1 (by simp), cc1.cell hS.2.2.1 (by simp), cc1.cell hS.2.2.2 (by simp)⟩
    have ch1 := (chW).trans' cc1 (by simp)
    refine hK.out _ _ hS1 (fun hHeld => ?_)
    clear hK K
    try simp only [Act.put, List.setIfInBounds_toArray, List.set_cons_succ, List.set_cons_zero]
    refine wpAnyH_ready (rs := [4, 11]) (by kernel_rfl) (by simp) (AllReadyH.cons rfl (fun K hK => ?_) (AllReadyH.cons rfl (fun K hK => ?_) (AllReadyH.nil)))
    · skip
      have hS02 := hS1
      have szc := ch1.size
      refine wp_app_env (.tmp 104) (.tmp 107) rfl rfl R01 _ _ _ (L.take k) rfl (by rw [List.length_take, HN.out]; omega) (EAt.take (W81.row hn0) k) (by simp; omega) ?_
      intro v1 v2 hR1 cc2 hat4
      have lo1 : ∀ z ∈ obl v1, W.heap.size ≤ z := fun z hz => (hat4 z hz).elim (fun q => by have := mem_one (show _ ∈ [g104] from q); omega) (fun q => by omega)
      have hR1 : Erw v2 v1 (L.take k) := hR1
      have W82 := W81.chg cc2 (fun z hz hm => by have := hlt8 z hz; have := mem_one (show _ ∈ [g104] from hm); omega)
      have hS2 : v2.cell? ⟨b, 0, none⟩ = some (.int .i64 e.client) ∧ v2.cell? ⟨b, 1, none⟩ = some (.int .u64 e.nonce) ∧ v2.cell? ⟨b, 2, none⟩ = some (.int .u64 e.fee) ∧ v2.cell? ⟨b, 3, none⟩ = some (.int .i64 e.cipher) := ⟨cc2.cell hS1.1 (fun hm => by have := mem_one (show b ∈ [g104] from hm); omega), cc2.cell hS1.2.1 (fun hm => by have := mem_one (show b ∈ [g104] from hm); omega), cc2.cell hS1.2.2.1 (fun hm => by have := mem_one (show b ∈ [g104] from hm); omega), cc2.cell hS1.2.2.2 (fun hm => by have := mem_one (show b ∈ [g104] from hm); omega)⟩
      have ch2 := (ch1).trans' cc2 (fun z hz => .inr (by have := mem_one (show _ ∈ [g104] from hz); omega))
      refine hK.out _ _ hS2 (fun hHeld => ?_)
      clear hK K
      try simp only [Act.put, List.setIfInBounds_toArray, List.set_cons_succ, List.set_cons_zero]
      refine wpAnyH_ready (rs := [9, 11]) (by kernel_rfl) (by simp) (AllReadyH.cons rfl (fun K hK => ?_) (AllReadyH.cons rfl (fun K hK => ?_) (AllReadyH.nil)))
      · skip
        have hS03 := hS2
        have szc := ch2.size
        refine wp_app_env (.tmp 108) (.tmp 112) rfl rfl hR1 _ _ _ (L.drop (k + 1)) rfl (by rw [List.length_drop, HN.out]) (EAt.drop (W82.row hn0) (k + 1) ((k + 1) * 4) rfl) (by rw [List.length_take, HN.out]; omega) ?_
        intro v2 v3 hR2 cc3 hat9
        have lo2 : ∀ z ∈ obl v2, W.heap.size ≤ z := fun z hz => (hat9 z hz).elim (fun q => lo1 z q) (fun q => by omega)
        have W83 := W82.chg cc3 (fun z hz hm => by have := hlt8 z hz; have := lo1 z hm; omega)
        have hS3 : v3.cell? ⟨b, 0, none⟩ = some (.int .i64 e.client) ∧ v3.cell? ⟨b, 1, none⟩ = some (.int .u64 e.nonce) ∧ v3.cell? ⟨b, 2, none⟩ = some (.int .u64 e.fee) ∧ v3.cell? ⟨b, 3, none⟩ = some (.int .i64 e.cipher) := ⟨cc3.cell hS2.1 (fun hm => by have := lo1 b hm; omega), cc3.cell hS2.2.1 (fun hm => by have := lo1 b hm; omega), cc3.cell hS2.2.2.1 (fun hm => by have := lo1 b hm; omega), cc3.cell hS2.2.2.2 (fun hm => by have := lo1 b hm; omega)⟩
        have ch3 := (ch2).trans' cc3 (fun z hz => .inr (lo1 z hz))
        refine hK.out _ _ hS3 (fun hHeld => ?_)
        clear hK K
        try simp only [Act.put, List.setIfInBounds_toArray, List.set_cons_succ, List.set_cons_zero]
        refine wpAnyH_ready (rs := [11]) (by kernel_rfl) (by simp) (AllReadyH.cons rfl (fun K hK => ?_) (AllReadyH.nil))
        have hS04 := hS3
        have cc4 : Chg [] v3 (v3.alloc (.cells #[.int .i64 e.client, .int .u64 e.nonce, .int .u64 e.fee, .int .i64 e.cipher] 32)) := (Chg.refl _ _).alloc _
        have Bg115 : Blk (v3.alloc (.cells #[.int .i64 e.client, .int .u64 e.nonce, .int .u64 e.fee, .int .i64 e.cipher] 32)) v3.heap.size 32 [.int .i64 e.client, .int .u64 e.nonce, .int .u64 e.fee, .int .i64 e.cipher] := Blk.new _ _ _
        have Lg115 := ch3.size
        have NN4 : v3.heap.size ∉ obl v2 := fun hm => by have := hR2.lt _ hm; omega
        have sz_4 := cc4.size
        go_simp
        generalize hg115 : v3.heap.size = g115 at *
        generalize v3.alloc _ = v4 at *
        have W84 := W83.chg cc4 (by simp)
        have R24 := hR2.chg cc4 (by simp)
        have hS4 : v4.cell? ⟨b, 0, none⟩ = some (.int .i64 e.client) ∧ v4.cell? ⟨b, 1, none⟩ = some (.int .u64 e.nonce) ∧ v4.cell? ⟨b, 2, none⟩ = some (.int .u64 e.fee) ∧ v4.cell? ⟨b, 3, none⟩ = some (.int .i64 e.cipher) := ⟨cc4.cell hS3.1 (by simp), cc4.cell hS3.2.1 (by simp), cc4.cell hS3.2.2.1 (by simp), cc4.cell hS3.2.2.2 (by simp)⟩
        have ch4 := (ch3).trans' cc4 (by simp)
        refine hK.out _ _ hS4 (fun hHeld => ?_)
        clear hK K
        try simp only [Act.put, List.setIfInBounds_toArray, List.set_cons_succ, List.set_cons_zero]
        refine wpAnyH_ready (rs := [12]) (by kernel_rfl) (by simp) (AllReadyH.cons rfl (fun K hK => ?_) (AllReadyH.nil))
        have hS05 := hS4
        have szc := ch4.size
        refine wp_app_env (.tmp 113) (.tmp 115) rfl rfl R24 _ _ _ [e] rfl rfl (EAt.one Bg115) (by rw [List.length_append, List.length_take, List.length_drop, HN.out]; omega) ?_
        intro v3 v5 hR3 cc5 hat12
        have lo3 : ∀ z ∈ obl v3, W.heap.size ≤ z := fun z hz => (hat12 z hz).elim (fun q => lo2 z q) (fun q => by omega)
        have NN5 := NN4
        have g115_5 := Bg115.chg cc5 (fun hm => absurd hm (by first | exact N2 | exact NN4))
        have hS5 : v5.cell? ⟨b, 0, none⟩ = some (.int .i64 e.client) ∧ v5.cell? ⟨b, 1, none⟩ = some (.int .u64 e.nonce) ∧ v5.cell? ⟨b, 2, none⟩ = some (.int .u64 e.fee) ∧ v5.cell? ⟨b, 3, none⟩ = some (.int .i64 e.cipher) := ⟨cc5.cell hS4.1 (fun hm => by have := lo2 b hm; omega), cc5.cell hS4.2.1 (fun hm => by have := lo2 b hm; omega), cc5.cell hS4.2.2.1 (fun hm => by have := lo2 b hm; omega), cc5.cell hS4.2.2.2 (fun hm => by have := lo2 b hm; omega)⟩
        have ch5 := (ch4).trans' cc5 (fun z hz => .inr (lo2 z hz))
        refine hK.out _ _ hS5 (fun hHeld => ?_)
        clear hK K
        try simp only [Act.put, List.setIfInBounds_toArray, List.set_cons_succ, List.set_cons_zero]
        refine wpAnyH_take (i := 13) (v := ?_) rfl (by kernel_rfl) (by kernel_rfl) (by kernel_rfl) (fun c a w h => hP c a _ _ w h) (Or.inl ⟨by rfl, ?_⟩) hS5 ?_
        rotate_left
        · (intro w hSw; (try dsimp only at hSw); go_simp; (try (with_reducible rfl)))
        change wpAnyH _ _ _ _ _ _ _ (Act.put _ (some 8) _) _
        simp only [Act.put, List.setIfInBounds_toArray, List.set_cons_succ, List.set_cons_zero]
        refine wpAnyH_done (by kernel_rfl) ?_ _
        exact hQ _ v3 hR3 ch5 lo3 _ _ _ _ _ _ _ _ _ _ _ _ _
      · skip
        have hS03 := hS2
        have cc3 : Chg [] v2 (v2.alloc (.cells #[.int .i64 e.client, .int .u64 e.nonce, .int .u64 e.fee, .int .i64 e.cipher] 32)) := (Chg.refl _ _).alloc _
        have Bg115 : Blk (v2.alloc (.cells #[.int .i64 e.client, .int .u64 e.nonce, .int .u64 e.fee, .int .i64 e.cipher] 32)) v2.heap.size 32 [.int .i64 e.client, .int .u64 e.nonce, .int .u64 e.fee, .int .i64 e.cipher] := Blk.new _ _ _
        have Lg115 := ch2.size
        have NN3 : v2.heap.size ∉ obl v1 := fun hm => by have := hR1.lt _ hm; omega
        have sz_3 := cc3.size
        go_simp
        generalize hg115 : v2.heap.size = g115 at *
        generalize v2.alloc _ = v3 at *
        have W83 := W82.chg cc3 (by simp)
        have R13 := hR1.chg cc3 (by simp)
        have hS3 : v3.cell? ⟨b, 0, none⟩ = some (.int .i64 e.client) ∧ v3.cell? ⟨b, 1, none⟩ = some (.int .u64 e.nonce) ∧ v3.cell? ⟨b, 2, none⟩ = some (.int .u64 e.fee) ∧ v3.cell? ⟨b, 3, none⟩ = some (.int .i64 e.cipher) := ⟨cc3.cell hS2.1 (by simp), cc3.cell hS2.2.1 (by simp), cc3.cell hS2.2.2.1 (by simp), cc3.cell hS2.2.2.2 (by simp)⟩
        have ch3 := (ch2).trans' cc3 (by simp)
        refine hK.out _ _ hS3 (fun hHeld => ?_)
        clear hK K
        try simp only [Act.put, List.setIfInBounds_toArray, List.set_cons_succ, List.set_cons_zero]
        refine wpAnyH_ready (rs := [9]) (by kernel_rfl) (by simp) (AllReadyH.cons rfl (fun K hK => ?_) (AllReadyH.nil))
        have hS04 := hS3
        have szc := ch3.size
        have lug115_3 := Bg115.lt
        refine wp_app_env (.tmp 108) (.tmp 112) rfl rfl R13 _ _ _ (L.drop (k + 1)) rfl (by rw [List.length_drop, HN.out]) (EAt.drop (W83.row hn0) (k + 1) ((k + 1) * 4) rfl) (by rw [List.length_take, HN.out]; omega) ?_
        intro v2 v4 hR2 cc4 hat9
        have lo2 : ∀ z ∈ obl v2, W.heap.size ≤ z := fun z hz => (hat9 z hz).elim (fun q => lo1 z q) (fun q => by omega)
        have N2 : g115 ∉ obl v2 := fun hm => (hat9 _ hm).elim (fun q => (by first | exact N1 q | exact NN3 q)) (fun q => by omega)
        have W84 := W83.chg cc4 (fun z hz hm => by have := hlt8 z hz; have := lo1 z hm; omega)
        have NN4 := NN3
        have g115_4 := Bg115.chg cc4 (fun hm => absurd hm (by first | exact N1 | exact NN3))
        have hS4 : v4.cell? ⟨b, 0, none⟩ = some (.int .i64 e.client) ∧ v4.cell? ⟨b, 1, none⟩ = some (.int .u64 e.nonce) ∧ v4.cell? ⟨b, 2, none⟩ = some (.int .u64 e.fee) ∧ v4.cell? ⟨b, 3, none⟩ = some (.int .i64 e.cipher) := ⟨cc4.cell hS3.1 (fun hm => by have := lo1 b hm; omega), cc4.cell hS3.2.1 (fun hm => by have := lo1 b hm; omega), cc4.cell hS3.2.2.1 (fun hm => by have := lo1 b hm; omega), cc4.cell hS3.2.2.2 (fun hm => by have := lo1 b hm; omega)⟩
        have ch4 := (ch3).trans' cc4 (fun z hz => .inr (lo1 z hz))
        refine hK.out _ _ hS4 (fun hHeld => ?_)
        clear hK K
        try simp only [Act.put, List.setIfInBounds_toArray, List.set_cons_succ, List.set_cons_zero]
        refine wpAnyH_ready (rs := [12]) (by kernel_rfl) (by simp) (AllReadyH.cons rfl (fun K hK => ?_) (AllReadyH.nil))
        have hS05 := hS4
        have szc := ch4.size
        refine wp_app_env (.tmp 113) (.tmp 115) rfl rfl hR2 _ _ _ [e] rfl rfl (EAt.one g115_4) (by rw [List.length_append, List.length_take, List.length_drop, HN.out]; omega) ?_
        intro v3 v5 hR3 cc5 hat12
        have lo3 : ∀ z ∈ obl v3, W.heap.size ≤ z := fun z hz => (hat12 z hz).elim (fun q => lo2 z q) (fun q => by omega)
        have NN5 := NN4
        have g115_5 := g115_4.chg cc5 (fun hm => absurd hm (by first | exact N2 | exact NN4))
        have hS5 : v5.cell? ⟨b, 0, none⟩ = some (.int .i64 e.client) ∧ v5.cell? ⟨b, 1, none⟩ = some (.int .u64 e.nonce) ∧ v5.cell? ⟨b, 2, none⟩ = some (.int .u64 e.fee) ∧ v5.cell? ⟨b, 3, none⟩ = some (.int .i64 e.cipher) := ⟨cc5.cell hS4.1 (fun hm => by have := lo2 b hm; omega), cc5.cell hS4.2.1 (fun hm => by have := lo2 b hm; omega), cc5.cell hS4.2.2.1 (fun hm => by have := lo2 b hm; omega), cc5.cell hS4.2.2.2 (fun hm => by have := lo2 b hm; omega)⟩
        have ch5 := (ch4).trans' cc5 (fun z hz => .inr (lo2 z hz))
        refine hK.out _ _ hS5 (fun hHeld => ?_)
        clear hK K
        try simp only [Act.put, List.setIfInBounds_toArray, List.set_cons_succ, List.set_cons_zero]
        refine wpAnyH_take (i := 13) (v := ?_) rfl (by kernel_rfl) (by kernel_rfl) (by kernel_rfl) (fun c a w h => hP c a _ _ w h) (Or.inl ⟨by rfl, ?_⟩) hS5 ?_
        rotate_left
        · (intro w hSw; (try dsimp only at hSw); go_simp; (try (with_reducible rfl)))
        change wpAnyH _ _ _ _ _ _ _ (Act.put _ (some 8) _) _
        simp only [Act.put, List.setIfInBounds_toArray, List.set_cons_succ, List.set_cons_zero]
        refine wpAnyH_done (by kernel_rfl) ?_ _
        exact hQ _ v3 hR3 ch5 lo3 _ _ _ _ _ _ _ _ _ _ _ _ _
    · skip
      have hS02 := hS1
      have cc2 : Chg [] v1 (v1.alloc (.cells #[.int .i64 e.client, .int .u64 e.nonce, .int .u64 e.fee, .int .i64 e.cipher] 32)) := (Chg.refl _ _).alloc _
      have Bg115 : Blk (v1.alloc (.cells #[.int .i64 e.client, .int .u64 e.nonce, .int .u64 e.fee, .int .i64 e.cipher] 32)) v1.heap.size 32 [.int .i64 e.client, .int .u64 e.nonce, .int .u64 e.fee, .int .i64 e.cipher] := Blk.new _ _ _
      have Lg115 := ch1.size
      have NN2 : v1.heap.size ≠ g104 := by have := R01.lt g104 (show g104 ∈ [g104] by simp); omega
      have sz_2 := cc2.size
      go_simp
      generalize hg115 : v1.heap.size = g115 at *
      generalize v1.alloc _ = v2 at *
      have W82 := W81.chg cc2 (by simp)
      have R02 := R01.chg cc2 (by simp)
      have hS2 : v2.cell? ⟨b, 0, none⟩ = some (.int .i64 e.client) ∧ v2.cell? ⟨b, 1, none⟩ = some (.int .u64 e.nonce) ∧ v2.cell? ⟨b, 2, none⟩ = some (.int .u64 e.fee) ∧ v2.cell? ⟨b, 3, none⟩ = some (.int .i64 e.cipher) := ⟨cc2.cell hS1.1 (by simp), cc2.cell hS1.2.1 (by simp), cc2.cell hS1.2.2.1 (by simp), cc2.cell hS1.2.2.2 (by simp)⟩
      have ch2 := (ch1).trans' cc2 (by simp)
      refine hK.out _ _ hS2 (fun hHeld => ?_)
      clear hK K
      try simp only [Act.put, List.setIfInBounds_toArray, List.set_cons_succ, List.set_cons_zero]
      refine wpAnyH_ready (rs := [4]) (by kernel_rfl) (by simp) (AllReadyH.cons rfl (fun K hK => ?_) (AllReadyH.nil))
      have hS03 := hS2
      have szc := ch2.size
      have lug115_2 := Bg115.lt
      refine wp_app_env (.tmp 104) (.tmp 107) rfl rfl R02 _ _ _ (L.take k) rfl (by rw [List.length_take, HN.out]; omega) (EAt.take (W82.row hn0) k) (by simp; omega) ?_
      intro v1 v3 hR1 cc3 hat4
      have lo1 : ∀ z ∈ obl v1, W.heap.size ≤ z := fun z hz => (hat4 z hz).elim (fun q => by have := mem_one (show _ ∈ [g104] from q); omega) (fun q => by omega)
      have hR1 : Erw v3 v1 (L.take k) := hR1
      have N1 : g115 ∉ obl v1 := fun hm => (hat4 _ hm).elim (fun q => by have := mem_one (show _ ∈ [g104] from q); omega) (fun q => by omega)
      have W83 := W82.chg cc3 (fun z hz hm => by have := hlt8 z hz; have := mem_one (show _ ∈ [g104] from hm); omega)
      have NN3 := NN2
      have g115_3 := Bg115.chg cc3 (fun hm => by have := mem_one (show g115 ∈ [g104] from hm); omega)
      have hS3 : v3.cell? ⟨b, 0, none⟩ = some (.int .i64 e.client) ∧ v3.cell? ⟨b, 1, none⟩ = some (.int .u64 e.nonce) ∧ v3.cell? ⟨b, 2, none⟩ = some (.int .u64 e.fee) ∧ v3.cell? ⟨b, 3, none⟩ = some (.int .i64 e.cipher) := ⟨cc3.cell hS2.1 (fun hm => by have := mem_one (show b ∈ [g104] from hm); omega), cc3.cell hS2.2.1 (fun hm => by have := mem_one (show b ∈ [g104] from hm); omega), cc3.cell hS2.2.2.1 (fun hm => by have := mem_one (show b ∈ [g104] from hm); omega), cc3.cell hS2.2.2.2 (fun hm => by have := mem_one (show b ∈ [g104] from hm); omega)⟩
      have ch3 := (ch2).trans' cc3 (fun z hz => .inr (by have := mem_one (show _ ∈ [g104] from hz); omega))
      refine hK.out _ _ hS3 (fun hHeld => ?_)
      clear hK K
      try simp only [Act.put, List.setIfInBounds_toArray, List.set_cons_succ, List.set_cons_zero]
      refine wpAnyH_ready (rs := [9]) (by kernel_rfl) (by simp) (AllReadyH.cons rfl (fun K hK => ?_) (AllReadyH.nil))
      have hS04 := hS3
      have szc := ch3.size
      have lug115_3 := g115_3.lt
      refine wp_app_env (.tmp 108) (.tmp 112) rfl rfl hR1 _ _ _ (L.drop (k + 1)) rfl (by rw [List.length_drop, HN.out]) (EAt.drop (W83.row hn0) (k + 1) ((k + 1) * 4) rfl) (by rw [List.length_take, HN.out]; omega) ?_
      intro v2 v4 hR2 cc4 hat9
      have lo2 : ∀ z ∈ obl v2, W.heap.size ≤ z := fun z hz => (hat9 z hz).elim (fun q => lo1 z q) (fun q => by omega)
      have N2 : g115 ∉ obl v2 := fun hm => (hat9 _ hm).elim (fun q => (by first | exact N1 q | exact NN3 q)) (fun q => by omega)
      have W84 := W83.chg cc4 (fun z hz hm => by have := hlt8 z hz; have := lo1 z hm; omega)
      have NN4 := NN3
      have g115_4 := g115_3.chg cc4 (fun hm => absurd hm (by first | exact N1 | exact NN3))
      have hS4 : v4.cell? ⟨b, 0, none⟩ = some (.int .i64 e.client) ∧ v4.cell? ⟨b, 1, none⟩ = some (.int .u64 e.nonce) ∧ v4.cell? ⟨b, 2, none⟩ = some (.int .u64 e.fee) ∧ v4.cell? ⟨b, 3, none⟩ = some (.int .i64 e.cipher) := ⟨cc4.cell hS3.1 (fun hm => by have := lo1 b hm; omega), cc4.cell hS3.2.1 (fun hm => by have := lo1 b hm; omega), cc4.cell hS3.2.2.1 (fun hm => by have := lo1 b hm; omega), cc4.cell hS3.2.2.2 (fun hm => by have := lo1 b hm; omega)⟩
      have ch4 := (ch3).trans' cc4 (fun z hz => .inr (lo1 z hz))
      refine hK.out _ _ hS4 (fun hHeld => ?_)
      clear hK K
      try simp only [Act.put, List.setIfInBounds_toArray, List.set_cons_succ, List.set_cons_zero]
      refine wpAnyH_ready (rs := [12]) (by kernel_rfl) (by simp) (AllReadyH.cons rfl (fun K hK => ?_) (AllReadyH.nil))
      have hS05 := hS4
      have szc := ch4.size
      refine wp_app_env (.tmp 113) (.tmp 115) rfl rfl hR2 _ _ _ [e] rfl rfl (EAt.one g115_4) (by rw [List.length_append, List.length_take, List.length_drop, HN.out]; omega) ?_
      intro v3 v5 hR3 cc5 hat12
      have lo3 : ∀ z ∈ obl v3, W.heap.size ≤ z := fun z hz => (hat12 z hz).elim (fun q => lo2 z q) (fun q => by omega)
      have NN5 := NN4
      have g115_5 := g115_4.chg cc5 (fun hm => absurd hm (by first | exact N2 | exact NN4))
      have hS5 : v5.cell? ⟨b, 0, none⟩ = some (.int .i64 e.client) ∧ v5.cell? ⟨b, 1, none⟩ = some (.int .u64 e.nonce) ∧ v5.cell? ⟨b, 2, none⟩ = some (.int .u64 e.fee) ∧ v5.cell? ⟨b, 3, none⟩ = some (.int .i64 e.cipher) := ⟨cc5.cell hS4.1 (fun hm => by have := lo2 b hm; omega), cc5.cell hS4.2.1 (fun hm => by have := lo2 b hm; omega), cc5.cell hS4.2.2.1 (fun hm => by have := lo2 b hm; omega), cc5.cell hS4.2.2.2 (fun hm => by have := lo2 b hm; omega)⟩
      have ch5 := (ch4).trans' cc5 (fun z hz => .inr (lo2 z hz))
      refine hK.out _ _ hS5 (fun hHeld => ?_)
      clear hK K
      try simp only [Act.put, List.setIfInBounds_toArray, List.set_cons_succ, List.set_cons_zero]
      refine wpAnyH_take (i := 13) (v := ?_) rfl (by kernel_rfl) (by kernel_rfl) (by kernel_rfl) (fun c a w h => hP c a _ _ w h) (Or.inl ⟨by rfl, ?_⟩) hS5 ?_
      rotate_left
      · (intro w hSw; (try dsimp only at hSw); go_simp; (try (with_reducible rfl)))
      change wpAnyH _ _ _ _ _ _ _ (Act.put _ (some 8) _) _
      simp only [Act.put, List.setIfInBounds_toArray, List.set_cons_succ, List.set_cons_zero]
      refine wpAnyH_done (by kernel_rfl) ?_ _
      exact hQ _ v3 hR3 ch5 lo3 _ _ _ _ _ _ _ _ _ _ _ _ _
  · skip
    have hS01 := hS
    have cc1 : Chg [] v0 (v0.alloc (.cells #[.int .i64 e.client, .int .u64 e.nonce, .int .u64 e.fee, .int .i64 e.cipher] 32)) := (Chg.refl _ _).alloc _
    have Bg115 : Blk (v0.alloc (.cells #[.int .i64 e.client, .int .u64 e.nonce, .int .u64 e.fee, .int .i64 e.cipher] 32)) v0.heap.size 32 [.int .i64 e.client, .int .u64 e.nonce, .int .u64 e.fee, .int .i64 e.cipher] := Blk.new _ _ _
    have Lg115 := chW.size
    have NN1 : True := trivial
    have sz_1 := cc1.size
    go_simp
    generalize hg115 : v0.heap.size = g115 at *
    generalize v0.alloc _ = v1 at *
    have W81 := W8_0.chg cc1 (by simp)
    have hS1 : v1.cell? ⟨b, 0, none⟩ = some (.int .i64 e.client) ∧ v1.cell? ⟨b, 1, none⟩ = some (.int .u64 e.nonce) ∧ v1.cell? ⟨b, 2, none⟩ = some (.int .u64 e.fee) ∧ v1.cell? ⟨b, 3, none⟩ = some (.int .i64 e.cipher) := ⟨cc1.cell hS.1 (by simp), cc1.cell hS.2.1 (by simp), cc1.cell hS.2.2.1 (by simp), cc1.cell hS.2.2.2 (by simp)⟩
    have ch1 := (chW).trans' cc1 (by simp)
    refine hK.out _ _ hS1 (fun hHeld => ?_)
    clear hK K
    try simp only [Act.put, List.setIfInBounds_toArray, List.set_cons_succ, List.set_cons_zero]
    refine wpAnyH_ready (rs := [0]) (by kernel_rfl) (by simp) (AllReadyH.cons rfl (fun K hK => ?_) (AllReadyH.nil))
    have hS02 := hS1
    have cc2 : Chg [] v1 (v1.alloc (.cells #[] 32)) := (Chg.refl _ _).alloc _
    have Bg104 : Blk (v1.alloc (.cells #[] 32)) v1.heap.size 32 [] := Blk.new _ _ _
    have Lg104 := ch1.size
    have ltg115_2 := Bg115.lt
    have R02 : Erw (v1.alloc (.cells #[] 32)) (.slice (some ⟨v1.heap.size, 0, none⟩) 0 0) [] := Erw.fresh (Blk.new v1 [] 32)
    have sz_2 := cc2.size
    go_simp
    generalize hg104 : v1.heap.size = g104 at *
    generalize v1.alloc _ = v2 at *
    have W82 := W81.chg cc2 (by simp)
    have NN2 := NN1
    have g115_2 := Bg115.chg cc2 (by simp)
    have hS2 : v2.cell? ⟨b, 0, none⟩ = some (.int .i64 e.client) ∧ v2.cell? ⟨b, 1, none⟩ = some (.int .u64 e.nonce) ∧ v2.cell? ⟨b, 2, none⟩ = some (.int .u64 e.fee) ∧ v2.cell? ⟨b, 3, none⟩ = some (.int .i64 e.cipher) := ⟨cc2.cell hS1.1 (by simp), cc2.cell hS1.2.1 (by simp), cc2.cell hS1.2.2.1 (by simp), cc2.cell hS1.2.2.2 (by simp)⟩
    have ch2 := (ch1).trans' cc2 (by simp)
    refine hK.out _ _ hS2 (fun hHeld => ?_)
    clear hK K
    try simp only [Act.put, List.setIfInBounds_toArray, List.set_cons_succ, List.set_cons_zero]
    refine wpAnyH_ready (rs := [4]) (by kernel_rfl) (by simp) (AllReadyH.cons rfl (fun K hK => ?_) (AllReadyH.nil))
    have hS03 := hS2
    have szc := ch2.size
    have lug115_2 := g115_2.lt
    refine wp_app_env (.tmp 104) (.tmp 107) rfl rfl R02 _ _ _ (L.take k) rfl (by rw [List.length_take, HN.out]; omega) (EAt.take (W82.row hn0) k) (by simp; omega) ?_
    intro v1 v3 hR1 cc3 hat4
    have lo1 : ∀ z ∈ obl v1, W.heap.size ≤ z := fun z hz => (hat4 z hz).elim (fun q => by have := mem_one (show _ ∈ [g104] from q); omega) (fun q => by omega)
    have hR1 : Erw v3 v1 (L.take k) := hR1
    have N1 : g115 ∉ obl v1 := fun hm => (hat4 _ hm).elim (fun q => by have := mem_one (show _ ∈ [g104] from q); omega) (fun q => by omega)
    have W83 := W82.chg cc3 (fun z hz hm => by have := hlt8 z hz; have := mem_one (show _ ∈ [g104] from hm); omega)
    have NN3 := NN2
    have g115_3 := g115_2.chg cc3 (fun hm => by have := mem_one (show g115 ∈ [g104] from hm); omega)
    have hS3 : v3.cell? ⟨b, 0, none⟩ = some (.int .i64 e.client) ∧ v3.cell? ⟨b, 1, none⟩ = some (.int .u64 e.nonce) ∧ v3.cell? ⟨b, 2, none⟩ = some (.int .u64 e.fee) ∧ v3.cell? ⟨b, 3, none⟩ = some (.int .i64 e.cipher) := ⟨cc3.cell hS2.1 (fun hm => by have := mem_one (show b ∈ [g104] from hm); omega), cc3.cell hS2.2.1 (fun hm => by have := mem_one (show b ∈ [g104] from hm); omega), cc3.cell hS2.2.2.1 (fun hm => by have := mem_one (show b ∈ [g104] from hm); omega), cc3.cell hS2.2.2.2 (fun hm => by have := mem_one (show b ∈ [g104] from hm); omega)⟩
    have ch3 := (ch2).trans' cc3 (fun z hz => .inr (by have := mem_one (show _ ∈ [g104] from hz); omega))
    refine hK.out _ _ hS3 (fun hHeld => ?_)
    clear hK K
    try simp only [Act.put, List.setIfInBounds_toArray, List.set_cons_succ, List.set_cons_zero]
    refine wpAnyH_ready (rs := [9]) (by kernel_rfl) (by simp) (AllReadyH.cons rfl (fun K hK => ?_) (AllReadyH.nil))
    have hS04 := hS3
    have szc := ch3.size
    have lug115_3 := g115_3.lt
    refine wp_app_env (.tmp 108) (.tmp 112) rfl rfl hR1 _ _ _ (L.drop (k + 1)) rfl (by rw [List.length_drop, HN.out]) (EAt.drop (W83.row hn0) (k + 1) ((k + 1) * 4) rfl) (by rw [List.length_take, HN.out]; omega) ?_
    intro v2 v4 hR2 cc4 hat9
    have lo2 : ∀ z ∈ obl v2, W.heap.size ≤ z := fun z hz => (hat9 z hz).elim (fun q => lo1 z q) (fun q => by omega)
    have N2 : g115 ∉ obl v2 := fun hm => (hat9 _ hm).elim (fun q => (by first | exact N1 q | exact NN3 q)) (fun q => by omega)
    have W84 := W83.chg cc4 (fun z hz hm => by have := hlt8 z hz; have := lo1 z hm; omega)
    have NN4 := NN3
    have g115_4 := g115_3.chg cc4 (fun hm => absurd hm (by first | exact N1 | exact NN3))
    have hS4 : v4.cell? ⟨b, 0, none⟩ = some (.int .i64 e.client) ∧ v4.cell? ⟨b, 1, none⟩ = some (.int .u64 e.nonce) ∧ v4.cell? ⟨b, 2, none⟩ = some (.int .u64 e.fee) ∧ v4.cell? ⟨b, 3, none⟩ = some (.int .i64 e.cipher) := ⟨cc4.cell hS3.1 (fun hm => by have := lo1 b hm; omega), cc4.cell hS3.2.1 (fun hm => by have := lo1 b hm; omega), cc4.cell hS3.2.2.1 (fun hm => by have := lo1 b hm; omega), cc4.cell hS3.2.2.2 (fun hm => by have := lo1 b hm; omega)⟩
    have ch4 := (ch3).trans' cc4 (fun z hz => .inr (lo1 z hz))
    refine hK.out _ _ hS4 (fun hHeld => ?_)
    clear hK K
    try simp only [Act.put, List.setIfInBounds_toArray, List.set_cons_succ, List.set_cons_zero]
    refine wpAnyH_ready (rs := [12]) (by kernel_rfl) (by simp) (AllReadyH.cons rfl (fun K hK => ?_) (AllReadyH.nil))
    have hS05 := hS4
    have szc := ch4.size
    refine wp_app_env (.tmp 113) (.tmp 115) rfl rfl hR2 _ _ _ [e] rfl rfl (EAt.one g115_4) (by rw [List.length_append, List.length_take, List.length_drop, HN.out]; omega) ?_
    intro v3 v5 hR3 cc5 hat12
    have lo3 : ∀ z ∈ obl v3, W.heap.size ≤ z := fun z hz => (hat12 z hz).elim (fun q => lo2 z q) (fun q => by omega)
    have NN5 := NN4
    have g115_5 := g115_4.chg cc5 (fun hm => absurd hm (by first | exact N2 | exact NN4))
    have hS5 : v5.cell? ⟨b, 0, none⟩ = some (.int .i64 e.client) ∧ v5.cell? ⟨b, 1, none⟩ = some (.int .u64 e.nonce) ∧ v5.cell? ⟨b, 2, none⟩ = some (.int .u64 e.fee) ∧ v5.cell? ⟨b, 3, none⟩ = some (.int .i64 e.cipher) := ⟨cc5.cell hS4.1 (fun hm => by have := lo2 b hm; omega), cc5.cell hS4.2.1 (fun hm => by have := lo2 b hm; omega), cc5.cell hS4.2.2.1 (fun hm => by have := lo2 b hm; omega), cc5.cell hS4.2.2.2 (fun hm => by have := lo2 b hm; omega)⟩
    have ch5 := (ch4).trans' cc5 (fun z hz => .inr (lo2 z hz))
    refine hK.out _ _ hS5 (fun hHeld => ?_)
    clear hK K
    try simp only [Act.put, List.setIfInBounds_toArray, List.set_cons_succ, List.set_cons_zero]
    refine wpAnyH_take (i := 13) (v := ?_) rfl (by kernel_rfl) (by kernel_rfl) (by kernel_rfl) (fun c a w h => hP c a _ _ w h) (Or.inl ⟨by rfl, ?_⟩) hS5 ?_
    rotate_left
    · (intro w hSw; (try dsimp only at hSw); go_simp; (try (with_reducible rfl)))
    change wpAnyH _ _ _ _ _ _ _ (Act.put _ (some 8) _) _
    simp only [Act.put, List.setIfInBounds_toArray, List.set_cons_succ, List.set_cons_zero]
    refine wpAnyH_done (by kernel_rfl) ?_ _
    exact hQ _ v3 hR3 ch5 lo3 _ _ _ _ _ _ _ _ _ _ _ _ _
set_option maxRecDepth 1000000 in
set_option maxHeartbeats 8000000 in
theorem full_regB {Q : Exit → Act → World → Prop} {u0 u1 u2 u3 u4 u5 u6 u7 u9 u11 u13 u14 u15 u16 u17 u18 u19 u20 u21 u22 u23 u24 u25 u26 u27 u28 u29 u30 u31 u32 u33 u34 u35 u36 u37 u38 u39 u40 u41 u42 u43 u44 u45 u46 u47 u48 u49 u50 u51 u52 u53 u54 u55 u56 u57 u58 u59 u60 u61 u62 u63 u64 u65 u66 u67 u68 u69 u70 u71 u72 u73 u74 u75 u76 u77 u78 u79 u80 u81 u82 u83 u84 u85 u86 u87 u88 u89 u90 u91 u92 u93 u94 u95 u96 u97 u98 u99 u100 u101 u102 u103 u104 u105 u106 u107 u108 u109 u110 u111 u112 u113 u114 u115 u116 u117 u118 u119 u120 u121 u122 u123 u124 u125 u126 u127 u128 u129 u130 u131 u132 u133 u134 u135 u136 u137 u138 u139 u140 u141 u142 u143 u144 u145 u146 : Value} (hP : ∀ c a d v w, Q (.panic c) (Act.put a d v) w → Q (.panic c) a w) {b g8 n c8 k : Nat} {e : Env} {L : List Env} {W : World} (HE : Hid (Blk W b 32 (nc e))) (H8 : Hid (Erw W (.slice (some ⟨g8, 0, none⟩) n c8) L)) (HN : Hid (L.length = n)) (hn0 : 0 < n) (hn8 : n ≤ 8) (hk : k < n) (hnc : n ≤ c8) (wk : IntKind.i64.wrap ((k : Int) + 1) = (k : Int) + 1) (k0 : (0 : Int) ≤ (k : Int)) (k1 : (k : Int) ≤ ((n : Nat) : Int)) (k2 : (k : Int) ≤ ((c8 : Nat) : Int)) (k3 : (0 : Int) ≤ (k : Int) + 1) (k4 : (k : Int) + 1 ≤ ((n : Nat) : Int)) (k5 : (k : Int) + 1 ≤ ((c8 : Nat) : Int)) (k6 : ((n : Nat) : Int) ≤ ((c8 : Nat) : Int)) (hc1 : (c8 = k + 1) = True) (hnk : Hid (n = k + 1))
    (hQ : ∀ (v : World) (v3 : Value) (_ : Erw v v3 (L.take k ++ L.drop (k + 1) ++ [e])) (_ : Chg [] W v) (_ : ∀ z ∈ obl v3, W.heap.size ≤ z) (x104 x105 x106 x107 x108 x109 x110 x111 x112 x113 x114 x115 x116 : Value), Q .normal ⟨#[u0, u1, u2, u3, u4, u5, u6, u7, v3, u9, .pointer (some ⟨b, 0, none⟩), u11, .int .i64 k, u13, u14, u15, u16, u17, u18, u19, u20, u21, u22, u23, u24, u25, u26, u27, u28, u29, u30, u31, u32, u33, u34, u35, u36, u37, u38, u39, u40, u41, u42, u43, u44, u45, u46, u47, u48, u49, u50, u51, u52, u53, u54, u55, u56, u57, u58, u59, u60, u61, u62, u63, u64, u65, u66, u67, u68, u69, u70, u71, u72, u73, u74, u75, u76, u77, u78, u79, u80, u81, u82, u83, u84, u85, u86, u87, u88, u89, u90, u91, u92, u93, u94, u95, u96, u97, u98, u99, u100, u101, u102, u103, x104, x105, x106, x107, x108, x109, x110, x111, x112, x113, x114, x115, x116, u117, u118, u119, u120, u121, u122, u123, u124, u125, u126, u127, u128, u129, u130, u131, u132, u133, u134, u135, u136, u137, u138, u139, u140, u141, u142, u143, u144, u145, u146], []⟩ v) :
    Code.wp Try.prog (regionOf Try.f3 28) Q ⟨#[u0, u1, u2, u3, u4, u5, u6, u7, .slice (some ⟨g8, 0, none⟩) n c8, u9, .pointer (some ⟨b, 0, none⟩), u11, .int .i64 k, u13, u14, u15, u16, u17, u18, u19, u20, u21, u22, u23, u24, u25, u26, u27, u28, u29, u30, u31, u32, u33, u34, u35, u36, u37, u38, u39, u40, u41, u42, u43, u44, u45, u46, u47, u48, u49, u50, u51, u52, u53, u54, u55, u56, u57, u58, u59, u60, u61, u62, u63, u64, u65, u66, u67, u68, u69, u70, u71, u72, u73, u74, u75, u76, u77, u78, u79, u80, u81, u82, u83, u84, u85, u86, u87, u88, u89, u90, u91, u92, u93, u94, u95, u96, u97, u98, u99, u100, u101, u102, u103, u104, u105, u106, u107, u108, u109, u110, u111, u112, u113, u114, u115, u116, u117, u118, u119, u120, u121, u122, u123, u124, u125, u126, u127, u128, u129, u130, u131, u132, u133, u134, u135, u136, u137, u138, u139, u140, u141, u142, u143, u144, u145, u146], []⟩ W := by
  conv => arg 2; whnf
  have lb := HE.out.lt
  have hlt8 := H8.out.lt
  refine wp_region_held_drew (S := (fun w' => w'.cell? ⟨b, 0, none⟩ = some (.int .i64 e.client) ∧ w'.cell? ⟨b, 1, none⟩ = some (.int .u64 e.nonce) ∧ w'.cell? ⟨b, 2, none⟩ = some (.int .u64 e.fee) ∧ w'.cell? ⟨b, 3, none⟩ = some (.int .i64 e.cipher))) (by kernel_rfl) ⟨HE.out.at (i := 0) rfl, HE.out.at (i := 1) rfl, HE.out.at (i := 2) rfl, HE.out.at (i := 3) rfl⟩ (fun _ => ?_)
  have hS : W.drew.cell? ⟨b, 0, none⟩ = some (.int .i64 e.client) ∧ W.drew.cell? ⟨b, 1, none⟩ = some (.int .u64 e.nonce) ∧ W.drew.cell? ⟨b, 2, none⟩ = some (.int .u64 e.fee) ∧ W.drew.cell? ⟨b, 3, none⟩ = some (.int .i64 e.cipher) := ⟨HE.out.at (i := 0) rfl, HE.out.at (i := 1) rfl, HE.out.at (i := 2) rfl, HE.out.at (i := 3) rfl⟩
  have chW : Chg [] W W.drew := (Chg.refl _ W).drew
  have W8_0 := (H8.out.chg ((Chg.refl [] W).drew) (by simp))
  generalize hWD : W.drew = v0 at *
  refine wpAnyH_take (i := 1) (v := ?_) rfl (by kernel_rfl) (by kernel_rfl) (by kernel_rfl) (fun c a w h => hP c a _ _ w h) (Or.inl ⟨by rfl, ?_⟩) hS ?_
  rotate_left
  · (intro w hSw; (try dsimp only at hSw); go_simp; (try (with_reducible rfl)))
  change wpAnyH _ _ _ _ _ _ _ (Act.put _ (some 105) _) _
  simp only [Act.put, List.setIfInBounds_toArray, List.set_cons_succ, List.set_cons_zero]
  refine wpAnyH_take (i := 2) (v := ?_) rfl (by kernel_rfl) (by kernel_rfl) (by kernel_rfl) (fun c a w h => hP c a _ _ w h) (Or.inl ⟨by rfl, ?_⟩) hS ?_
  rotate_left
  · (intro w hSw; (try dsimp only at hSw); go_simp; (try (with_reducible rfl)))
  change wpAnyH _ _ _ _ _ _ _ (Act.put _ (some 106) _) _
  simp only [Act.put, List.setIfInBounds_toArray, List.set_cons_succ, List.set_cons_zero]
  refine wpAnyH_take (i := 3) (v := ?_) rfl (by kernel_rfl) (by kernel_rfl) (by kernel_rfl) (fun c a w h => hP c a _ _ w h) (Or.inl ⟨by rfl, ?_⟩) hS ?_
  rotate_left
  · (intro w hSw; (try dsimp only at hSw); go_simp; (try (with_reducible rfl)))
  change wpAnyH _ _ _ _ _ _ _ (Act.put _ (some 107) _) _
  simp only [Act.put, List.setIfInBounds_toArray, List.set_cons_succ, List.set_cons_zero]
  refine wpAnyH_take (i := 5) (v := ?_) rfl (by kernel_rfl) (by kernel_rfl) (by kernel_rfl) (fun c a w h => hP c a _ _ w h) (Or.inl ⟨by rfl, ?_⟩) hS ?_
  rotate_left
  · (intro w hSw; (try dsimp only at hSw); go_simp; (try (with_reducible rfl)))
  change wpAnyH _ _ _ _ _ _ _ (Act.put _ (some 109) _) _
  simp only [Act.put, List.setIfInBounds_toArray, List.set_cons_succ, List.set_cons_zero]
  refine wpAnyH_take (i := 6) (v := ?_) rfl (by kernel_rfl) (by kernel_rfl) (by kernel_rfl) (fun c a w h => hP c a _ _ w h) (Or.inl ⟨by rfl, ?_⟩) hS ?_
  rotate_left
  · (intro w hSw; (try dsimp only at hSw); go_simp; (try (with_reducible rfl)))
  change wpAnyH _ _ _ _ _ _ _ (Act.put _ (some 110) _) _
  simp only [Act.put, List.setIfInBounds_toArray, List.set_cons_succ, List.set_cons_zero]
  refine wpAnyH_take (i := 7) (v := ?_) rfl (by kernel_rfl) (by kernel_rfl) (by kernel_rfl) (fun c a w h => hP c a _ _ w h) (Or.inl ⟨by rfl, ?_⟩) hS ?_
  rotate_left
  · (intro w hSw; (try dsimp only at hSw); go_simp; (try (with_reducible rfl)))
  change wpAnyH _ _ _ _ _ _ _ (Act.put _ (some 111) _) _
  simp only [Act.put, List.setIfInBounds_toArray, List.set_cons_succ, List.set_cons_zero]
  refine wpAnyH_take (i := 8) (v := ?_) rfl (by kernel_rfl) (by kernel_rfl) (by kernel_rfl) (fun c a w h => hP c a _ _ w h) (Or.inl ⟨by rfl, ?_⟩) hS ?_
  rotate_left
  · (intro w hSw; (try dsimp only at hSw); go_simp; (try (with_reducible rfl)))
  change wpAnyH _ _ _ _ _ _ _ (Act.put _ (some 112) _) _
  simp only [Act.put, List.setIfInBounds_toArray, List.set_cons_succ, List.set_cons_zero]
  refine wpAnyH_take (i := 10) (v := ?_) rfl (by kernel_rfl) (by kernel_rfl) (by kernel_rfl) (fun c a w h => hP c a _ _ w h) (Or.inl ⟨by rfl, ?_⟩) hS ?_
  rotate_left
  · (intro w hSw; (try dsimp only at hSw); go_simp; (try (with_reducible rfl)))
  change wpAnyH _ _ _ _ _ _ _ (Act.put _ (some 114) _) _
  simp only [Act.put, List.setIfInBounds_toArray, List.set_cons_succ, List.set_cons_zero]
  refine wpAnyH_ready (rs := [0, 11]) (by kernel_rfl) (by simp) (AllReadyH.cons rfl (fun K hK => ?_) (AllReadyH.cons rfl (fun K hK => ?_) (AllReadyH.nil)))
  · skip
    have hS01 := hS
    have cc1 : Chg [] v0 (v0.alloc (.cells #[] 32)) := (Chg.refl _ _).alloc _
    have Bg104 : Blk (v0.alloc (.cells #[] 32)) v0.heap.size 32 [] := Blk.new _ _ _
    have Lg104 := chW.size
    have R01 : Erw (v0.alloc (.cells #[] 32)) (.slice (some ⟨v0.heap.size, 0, none⟩) 0 0) [] := Erw.fresh (Blk.new v0 [] 32)
    have sz_1 := cc1.size
    go_simp
    generalize hg104 : v0.heap.size = g104 at *
    generalize v0.alloc _ = v1 at *
    have W81 := W8_0.chg cc1 (by simp)
    have hS1 : v1.cell? ⟨b, 0, none⟩ = some (.int .i64 e.client) ∧ v1.cell? ⟨b, 1, none⟩ = some (.int .u64 e.nonce) ∧ v1.cell? ⟨b, 2, none⟩ = some (.int .u64 e.fee) ∧ v1.cell? ⟨b, 3, none⟩ = some (.int .i64 e.cipher) := ⟨cc1.cell hS.1 (by simp), cc1.cell hS.2.1 (by simp), cc1.cell hS.2.2.1 (by simp), cc1.cell hS.2.2.2 (by simp)⟩
    have ch1 := (chW).trans' cc1 (by simp)
    refine hK.out _ _ hS1 (fun hHeld => ?_)
    clear hK K
    try simp only [Act.put, List.setIfInBounds_toArray, List.set_cons_succ, List.set_cons_zero]
    refine wpAnyH_ready (rs := [4, 11]) (by kernel_rfl) (by simp) (AllReadyH.cons rfl (fun K hK => ?_) (AllReadyH.cons rfl (fun K hK => ?_) (AllReadyH.nil)))
    · skip
      have hS02 := hS1
      have szc := ch1.size
      refine wp_app_env (.tmp 104) (.tmp 107) rfl rfl R01 _ _ _ (L.take k) rfl (by rw [List.length_take, HN.out]; omega) (EAt.take (W81.row hn0) k) (by simp; omega) ?_
      intro v1 v2 hR1 cc2 hat4
      have lo1 : ∀ z ∈ obl v1, W.heap.size ≤ z := fun z hz => (hat4 z hz).elim (fun q => by have := mem_one (show _ ∈ [g104] from q); omega) (fun q => by omega)
      have hR1 : Erw v2 v1 (L.take k) := hR1
      have W82 := W81.chg cc2 (fun z hz hm => by have := hlt8 z hz; have := mem_one (show _ ∈ [g104] from hm); omega)
      have hS2 : v2.cell? ⟨b, 0, none⟩ = some (.int .i64 e.client) ∧ v2.cell? ⟨b, 1, none⟩ = some (.int .u64 e.nonce) ∧ v2.cell? ⟨b, 2, none⟩ = some (.int .u64 e.fee) ∧ v2.cell? ⟨b, 3, none⟩ = some (.int .i64 e.cipher) := ⟨cc2.cell hS1.1 (fun hm => by have := mem_one (show b ∈ [g104] from hm); omega), cc2.cell hS1.2.1 (fun hm => by have := mem_one (show b ∈ [g104] from hm); omega), cc2.cell hS1.2.2.1 (fun hm => by have := mem_one (show b ∈ [g104] from hm); omega), cc2.cell hS1.2.2.2 (fun hm => by have := mem_one (show b ∈ [g104] from hm); omega)⟩
      have ch2 := (ch1).trans' cc2 (fun z hz => .inr (by have := mem_one (show _ ∈ [g104] from hz); omega))
      refine hK.out _ _ hS2 (fun hHeld => ?_)
      clear hK K
      try simp only [Act.put, List.setIfInBounds_toArray, List.set_cons_succ, List.set_cons_zero]
      refine wpAnyH_ready (rs := [9, 11]) (by kernel_rfl) (by simp) (AllReadyH.cons rfl (fun K hK => ?_) (AllReadyH.cons rfl (fun K hK => ?_) (AllReadyH.nil)))
      · skip
        have hS03 := hS2
        have szc := ch2.size
        refine wp_app_env (.tmp 108) (.tmp 112) rfl rfl hR1 _ _ _ (L.drop (k + 1)) rfl (by rw [List.length_drop, HN.out]) (EAt.nil _ (List.drop_eq_nil_of_le (by rw [HN.out, hnk.out]; exact Nat.le_refl _))) (by rw [List.length_take, HN.out]; omega) ?_
        intro v2 v3 hR2 cc3 hat9
        have lo2 : ∀ z ∈ obl v2, W.heap.size ≤ z := fun z hz => (hat9 z hz).elim (fun q => lo1 z q) (fun q => by omega)
        have W83 := W82.chg cc3 (fun z hz hm => by have := hlt8 z hz; have := lo1 z hm; omega)
        have hS3 : v3.cell? ⟨b, 0, none⟩ = some (.int .i64 e.client) ∧ v3.cell? ⟨b, 1, none⟩ = some (.int .u64 e.nonce) ∧ v3.cell? ⟨b, 2, none⟩ = some (.int .u64 e.fee) ∧ v3.cell? ⟨b, 3, none⟩ = some (.int .i64 e.cipher) := ⟨cc3.cell hS2.1 (fun hm => by have := lo1 b hm; omega), cc3.cell hS2.2.1 (fun hm => by have := lo1 b hm; omega), cc3.cell hS2.2.2.1 (fun hm => by have := lo1 b hm; omega), cc3.cell hS2.2.2.2 (fun hm => by have := lo1 b hm; omega)⟩
        have ch3 := (ch2).trans' cc3 (fun z hz => .inr (lo1 z hz))
        refine hK.out _ _ hS3 (fun hHeld => ?_)
        clear hK K
        try simp only [Act.put, List.setIfInBounds_toArray, List.set_cons_succ, List.set_cons_zero]
        refine wpAnyH_ready (rs := [11]) (by kernel_rfl) (by simp) (AllReadyH.cons rfl (fun K hK => ?_) (AllReadyH.nil))
        have hS04 := hS3
        have cc4 : Chg [] v3 (v3.alloc (.cells #[.int .i64 e.client, .int .u64 e.nonce, .int .u64 e.fee, .int .i64 e.cipher] 32)) := (Chg.refl _ _).alloc _
        have Bg115 : Blk (v3.alloc (.cells #[.int .i64 e.client, .int .u64 e.nonce, .int .u64 e.fee, .int .i64 e.cipher] 32)) v3.heap.size 32 [.int .i64 e.client, .int .u64 e.nonce, .int .u64 e.fee, .int .i64 e.cipher] := Blk.new _ _ _
        have Lg115 := ch3.size
        have NN4 : v3.heap.size ∉ obl v2 := fun hm => by have := hR2.lt _ hm; omega
        have sz_4 := cc4.size
        go_simp
        generalize hg115 : v3.heap.size = g115 at *
        generalize v3.alloc _ = v4 at *
        have W84 := W83.chg cc4 (by simp)
        have R24 := hR2.chg cc4 (by simp)
        have hS4 : v4.cell? ⟨b, 0, none⟩ = some (.int .i64 e.client) ∧ v4.cell? ⟨b, 1, none⟩ = some (.int .u64 e.nonce) ∧ v4.cell? ⟨b, 2, none⟩ = some (.int .u64 e.fee) ∧ v4.cell? ⟨b, 3, none⟩ = some (.int .i64 e.cipher) := ⟨cc4.cell hS3.1 (by simp), cc4.cell hS3.2.1 (by simp), cc4.cell hS3.2.2.1 (by simp), cc4.cell hS3.2.2.2 (by simp)⟩
        have ch4 := (ch3).trans' cc4 (by simp)
        refine hK.out _ _ hS4 (fun hHeld => ?_)
        clear hK K
        try simp only [Act.put, List.setIfInBounds_toArray, List.set_cons_succ, List.set_cons_zero]
        refine wpAnyH_ready (rs := [12]) (by kernel_rfl) (by simp) (AllReadyH.cons rfl (fun K hK => ?_) (AllReadyH.nil))
        have hS05 := hS4
        have szc := ch4.size
        refine wp_app_env (.tmp 113) (.tmp 115) rfl rfl R24 _ _ _ [e] rfl rfl (EAt.one Bg115) (by rw [List.length_append, List.length_take, List.length_drop, HN.out]; omega) ?_
        intro v3 v5 hR3 cc5 hat12
        have lo3 : ∀ z ∈ obl v3, W.heap.size ≤ z := fun z hz => (hat12 z hz).elim (fun q => lo2 z q) (fun q => by omega)
        have NN5 := NN4
        have g115_5 := Bg115.chg cc5 (fun hm => absurd hm (by first | exact N2 | exact NN4))
        have hS5 : v5.cell? ⟨b, 0, none⟩ = some (.int .i64 e.client) ∧ v5.cell? ⟨b, 1, none⟩ = some (.int .u64 e.nonce) ∧ v5.cell? ⟨b, 2, none⟩ = some (.int .u64 e.fee) ∧ v5.cell? ⟨b, 3, none⟩ = some (.int .i64 e.cipher) := ⟨cc5.cell hS4.1 (fun hm => by have := lo2 b hm; omega), cc5.cell hS4.2.1 (fun hm => by have := lo2 b hm; omega), cc5.cell hS4.2.2.1 (fun hm => by have := lo2 b hm; omega), cc5.cell hS4.2.2.2 (fun hm => by have := lo2 b hm; omega)⟩
        have ch5 := (ch4).trans' cc5 (fun z hz => .inr (lo2 z hz))
        refine hK.out _ _ hS5 (fun hHeld => ?_)
        clear hK K
        try simp only [Act.put, List.setIfInBounds_toArray, List.set_cons_succ, List.set_cons_zero]
        refine wpAnyH_take (i := 13) (v := ?_) rfl (by kernel_rfl) (by kernel_rfl) (by kernel_rfl) (fun c a w h => hP c a _ _ w h) (Or.inl ⟨by rfl, ?_⟩) hS5 ?_
        rotate_left
        · (intro w hSw; (try dsimp only at hSw); go_simp; (try (with_reducible rfl)))
        change wpAnyH _ _ _ _ _ _ _ (Act.put _ (some 8) _) _
        simp only [Act.put, List.setIfInBounds_toArray, List.set_cons_succ, List.set_cons_zero]
        refine wpAnyH_done (by kernel_rfl) ?_ _
        exact hQ _ v3 hR3 ch5 lo3 _ _ _ _ _ _ _ _ _ _ _ _ _
      · skip
        have hS03 := hS2
        have cc3 : Chg [] v2 (v2.alloc (.cells #[.int .i64 e.client, .int .u64 e.nonce, .int .u64 e.fee, .int .i64 e.cipher] 32)) := (Chg.refl _ _).alloc _
        have Bg115 : Blk (v2.alloc (.cells #[.int .i64 e.client, .int .u64 e.nonce, .int .u64 e.fee, .int .i64 e.cipher] 32)) v2.heap.size 32 [.int .i64 e.client, .int .u64 e.nonce, .int .u64 e.fee, .int .i64 e.cipher] := Blk.new _ _ _
        have Lg115 := ch2.size
        have NN3 : v2.heap.size ∉ obl v1 := fun hm => by have := hR1.lt _ hm; omega
        have sz_3 := cc3.size
        go_simp
        generalize hg115 : v2.heap.size = g115 at *
        generalize v2.alloc _ = v3 at *
        have W83 := W82.chg cc3 (by simp)
        have R13 := hR1.chg cc3 (by simp)
        have hS3 : v3.cell? ⟨b, 0, none⟩ = some (.int .i64 e.client) ∧ v3.cell? ⟨b, 1, none⟩ = some (.int .u64 e.nonce) ∧ v3.cell? ⟨b, 2, none⟩ = some (.int .u64 e.fee) ∧ v3.cell? ⟨b, 3, none⟩ = some (.int .i64 e.cipher) := ⟨cc3.cell hS2.1 (by simp), cc3.cell hS2.2.1 (by simp), cc3.cell hS2.2.2.1 (by simp), cc3.cell hS2.2.2.2 (by simp)⟩
        have ch3 := (ch2).trans' cc3 (by simp)
        refine hK.out _ _ hS3 (fun hHeld => ?_)
        clear hK K
        try simp only [Act.put, List.setIfInBounds_toArray, List.set_cons_succ, List.set_cons_zero]
        refine wpAnyH_ready (rs := [9]) (by kernel_rfl) (by simp) (AllReadyH.cons rfl (fun K hK => ?_) (AllReadyH.nil))
        have hS04 := hS3
        have szc := ch3.size
        have lug115_3 := Bg115.lt
        refine wp_app_env (.tmp 108) (.tmp 112) rfl rfl R13 _ _ _ (L.drop (k + 1)) rfl (by rw [List.length_drop, HN.out]) (EAt.nil _ (List.drop_eq_nil_of_le (by rw [HN.out, hnk.out]; exact Nat.le_refl _))) (by rw [List.length_take, HN.out]; omega) ?_
        intro v2 v4 hR2 cc4 hat9
        have lo2 : ∀ z ∈ obl v2, W.heap.size ≤ z := fun z hz => (hat9 z hz).elim (fun q => lo1 z q) (fun q => by omega)
        have N2 : g115 ∉ obl v2 := fun hm => (hat9 _ hm).elim (fun q => (by first | exact N1 q | exact NN3 q)) (fun q => by omega)
        have W84 := W83.chg cc4 (fun z hz hm => by have := hlt8 z hz; have := lo1 z hm; omega)
        have NN4 := NN3
        have g115_4 := Bg115.chg cc4 (fun hm => absurd hm (by first | exact N1 | exact NN3))
        have hS4 : v4.cell? ⟨b, 0, none⟩ = some (.int .i64 e.client) ∧ v4.cell? ⟨b, 1, none⟩ = some (.int .u64 e.nonce) ∧ v4.cell? ⟨b, 2, none⟩ = some (.int .u64 e.fee) ∧ v4.cell? ⟨b, 3, none⟩ = some (.int .i64 e.cipher) := ⟨cc4.cell hS3.1 (fun hm => by have := lo1 b hm; omega), cc4.cell hS3.2.1 (fun hm => by have := lo1 b hm; omega), cc4.cell hS3.2.2.1 (fun hm => by have := lo1 b hm; omega), cc4.cell hS3.2.2.2 (fun hm => by have := lo1 b hm; omega)⟩
        have ch4 := (ch3).trans' cc4 (fun z hz => .inr (lo1 z hz))
        refine hK.out _ _ hS4 (fun hHeld => ?_)
        clear hK K
        try simp only [Act.put, List.setIfInBounds_toArray, List.set_cons_succ, List.set_cons_zero]
        refine wpAnyH_ready (rs := [12]) (by kernel_rfl) (by simp) (AllReadyH.cons rfl (fun K hK => ?_) (AllReadyH.nil))
        have hS05 := hS4
        have szc := ch4.size
        refine wp_app_env (.tmp 113) (.tmp 115) rfl rfl hR2 _ _ _ [e] rfl rfl (EAt.one g115_4) (by rw [List.length_append, List.length_take, List.length_drop, HN.out]; omega) ?_
        intro v3 v5 hR3 cc5 hat12
        have lo3 : ∀ z ∈ obl v3, W.heap.size ≤ z := fun z hz => (hat12 z hz).elim (fun q => lo2 z q) (fun q => by omega)
        have NN5 := NN4
        have g115_5 := g115_4.chg cc5 (fun hm => absurd hm (by first | exact N2 | exact NN4))
        have hS5 : v5.cell? ⟨b, 0, none⟩ = some (.int .i64 e.client) ∧ v5.cell? ⟨b, 1, none⟩ = some (.int .u64 e.nonce) ∧ v5.cell? ⟨b, 2, none⟩ = some (.int .u64 e.fee) ∧ v5.cell? ⟨b, 3, none⟩ = some (.int .i64 e.cipher) := ⟨cc5.cell hS4.1 (fun hm => by have := lo2 b hm; omega), cc5.cell hS4.2.1 (fun hm => by have := lo2 b hm; omega), cc5.cell hS4.2.2.1 (fun hm => by have := lo2 b hm; omega), cc5.cell hS4.2.2.2 (fun hm => by have := lo2 b hm; omega)⟩
        have ch5 := (ch4).trans' cc5 (fun z hz => .inr (lo2 z hz))
        refine hK.out _ _ hS5 (fun hHeld => ?_)
        clear hK K
        try simp only [Act.put, List.setIfInBounds_toArray, List.set_cons_succ, List.set_cons_zero]
        refine wpAnyH_take (i := 13) (v := ?_) rfl (by kernel_rfl) (by kernel_rfl) (by kernel_rfl) (fun c a w h => hP c a _ _ w h) (Or.inl ⟨by rfl, ?_⟩) hS5 ?_
        rotate_left
        · (intro w hSw; (try dsimp only at hSw); go_simp; (try (with_reducible rfl)))
        change wpAnyH _ _ _ _ _ _ _ (Act.put _ (some 8) _) _
        simp only [Act.put, List.setIfInBounds_toArray, List.set_cons_succ, List.set_cons_zero]
        refine wpAnyH_done (by kernel_rfl) ?_ _
        exact hQ _ v3 hR3 ch5 lo3 _ _ _ _ _ _ _ _ _ _ _ _ _
    · skip
      have hS02 := hS1
      have cc2 : Chg [] v1 (v1.alloc (.cells #[.int .i64 e.client, .int .u64 e.nonce, .int .u64 e.fee, .int .i64 e.cipher] 32)) := (Chg.refl _ _).alloc _
      have Bg115 : Blk (v1.alloc (.cells #[.int .i64 e.client, .int .u64 e.nonce, .int .u64 e.fee, .int .i64 e.cipher] 32)) v1.heap.size 32 [.int .i64 e.client, .int .u64 e.nonce, .int .u64 e.fee, .int .i64 e.cipher] := Blk.new _ _ _
      have Lg115 := ch1.size
      have NN2 : v1.heap.size ≠ g104 := by have := R01.lt g104 (show g104 ∈ [g104] by simp); omega
      have sz_2 := cc2.size
      go_simp
      generalize hg115 : v1.heap.size = g115 at *
      generalize v1.alloc _ = v2 at *
      have W82 := W81.chg cc2 (by simp)
      have R02 := R01.chg cc2 (by simp)
      have hS2 : v2.cell? ⟨b, 0, none⟩ = some (.int .i64 e.client) ∧ v2.cell? ⟨b, 1, none⟩ = some (.int .u64 e.nonce) ∧ v2.cell? ⟨b, 2, none⟩ = some (.int .u64 e.fee) ∧ v2.cell? ⟨b, 3, none⟩ = some (.int .i64 e.cipher) := ⟨cc2.cell hS1.1 (by simp), cc2.cell hS1.2.1 (by simp), cc2.cell hS1.2.2.1 (by simp), cc2.cell hS1.2.2.2 (by simp)⟩
      have ch2 := (ch1).trans' cc2 (by simp)
      refine hK.out _ _ hS2 (fun hHeld => ?_)
      clear hK K
      try simp only [Act.put, List.setIfInBounds_toArray, List.set_cons_succ, List.set_cons_zero]
      refine wpAnyH_ready (rs := [4]) (by kernel_rfl) (by simp) (AllReadyH.cons rfl (fun K hK => ?_) (AllReadyH.nil))
      have hS03 := hS2
      have szc := ch2.size
      have lug115_2 := Bg115.lt
      refine wp_app_env (.tmp 104) (.tmp 107) rfl rfl R02 _ _ _ (L.take k) rfl (by rw [List.length_take, HN.out]; omega) (EAt.take (W82.row hn0) k) (by simp; omega) ?_
      intro v1 v3 hR1 cc3 hat4
      have lo1 : ∀ z ∈ obl v1, W.heap.size ≤ z := fun z hz => (hat4 z hz).elim (fun q => by have := mem_one (show _ ∈ [g104] from q); omega) (fun q => by omega)
      have hR1 : Erw v3 v1 (L.take k) := hR1
      have N1 : g115 ∉ obl v1 := fun hm => (hat4 _ hm).elim (fun q => by have := mem_one (show _ ∈ [g104] from q); omega) (fun q => by omega)
      have W83 := W82.chg cc3 (fun z hz hm => by have := hlt8 z hz; have := mem_one (show _ ∈ [g104] from hm); omega)
      have NN3 := NN2
      have g115_3 := Bg115.chg cc3 (fun hm => by have := mem_one (show g115 ∈ [g104] from hm); omega)
      have hS3 : v3.cell? ⟨b, 0, none⟩ = some (.int .i64 e.client) ∧ v3.cell? ⟨b, 1, none⟩ = some (.int .u64 e.nonce) ∧ v3.cell? ⟨b, 2, none⟩ = some (.int .u64 e.fee) ∧ v3.cell? ⟨b, 3, none⟩ = some (.int .i64 e.cipher) := ⟨cc3.cell hS2.1 (fun hm => by have := mem_one (show b ∈ [g104] from hm); omega), cc3.cell hS2.2.1 (fun hm => by have := mem_one (show b ∈ [g104] from hm); omega), cc3.cell hS2.2.2.1 (fun hm => by have := mem_one (show b ∈ [g104] from hm); omega), cc3.cell hS2.2.2.2 (fun hm => by have := mem_one (show b ∈ [g104] from hm); omega)⟩
      have ch3 := (ch2).trans' cc3 (fun z hz => .inr (by have := mem_one (show _ ∈ [g104] from hz); omega))
      refine hK.out _ _ hS3 (fun hHeld => ?_)
      clear hK K
      try simp only [Act.put, List.setIfInBounds_toArray, List.set_cons_succ, List.set_cons_zero]
      refine wpAnyH_ready (rs := [9]) (by kernel_rfl) (by simp) (AllReadyH.cons rfl (fun K hK => ?_) (AllReadyH.nil))
      have hS04 := hS3
      have szc := ch3.size
      have lug115_3 := g115_3.lt
      refine wp_app_env (.tmp 108) (.tmp 112) rfl rfl hR1 _ _ _ (L.drop (k + 1)) rfl (by rw [List.length_drop, HN.out]) (EAt.nil _ (List.drop_eq_nil_of_le (by rw [HN.out, hnk.out]; exact Nat.le_refl _))) (by rw [List.length_take, HN.out]; omega) ?_
      intro v2 v4 hR2 cc4 hat9
      have lo2 : ∀ z ∈ obl v2, W.heap.size ≤ z := fun z hz => (hat9 z hz).elim (fun q => lo1 z q) (fun q => by omega)
      have N2 : g115 ∉ obl v2 := fun hm => (hat9 _ hm).elim (fun q => (by first | exact N1 q | exact NN3 q)) (fun q => by omega)
      have W84 := W83.chg cc4 (fun z hz hm => by have := hlt8 z hz; have := lo1 z hm; omega)
      have NN4 := NN3
      have g115_4 := g115_3.chg cc4 (fun hm => absurd hm (by first | exact N1 | exact NN3))
      have hS4 : v4.cell? ⟨b, 0, none⟩ = some (.int .i64 e.client) ∧ v4.cell? ⟨b, 1, none⟩ = some (.int .u64 e.nonce) ∧ v4.cell? ⟨b, 2, none⟩ = some (.int .u64 e.fee) ∧ v4.cell? ⟨b, 3, none⟩ = some (.int .i64 e.cipher) := ⟨cc4.cell hS3.1 (fun hm => by have := lo1 b hm; omega), cc4.cell hS3.2.1 (fun hm => by have := lo1 b hm; omega), cc4.cell hS3.2.2.1 (fun hm => by have := lo1 b hm; omega), cc4.cell hS3.2.2.2 (fun hm => by have := lo1 b hm; omega)⟩
      have ch4 := (ch3).trans' cc4 (fun z hz => .inr (lo1 z hz))
      refine hK.out _ _ hS4 (fun hHeld => ?_)
      clear hK K
      try simp only [Act.put, List.setIfInBounds_toArray, List.set_cons_succ, List.set_cons_zero]
      refine wpAnyH_ready (rs := [12]) (by kernel_rfl) (by simp) (AllReadyH.cons rfl (fun K hK => ?_) (AllReadyH.nil))
      have hS05 := hS4
      have szc := ch4.size
      refine wp_app_env (.tmp 113) (.tmp 115) rfl rfl hR2 _ _ _ [e] rfl rfl (EAt.one g115_4) (by rw [List.length_append, List.length_take, List.length_drop, HN.out]; omega) ?_
      intro v3 v5 hR3 cc5 hat12
      have lo3 : ∀ z ∈ obl v3, W.heap.size ≤ z := fun z hz => (hat12 z hz).elim (fun q => lo2 z q) (fun q => by omega)
      have NN5 := NN4
      have g115_5 := g115_4.chg cc5 (fun hm => absurd hm (by first | exact N2 | exact NN4))
      have hS5 : v5.cell? ⟨b, 0, none⟩ = some (.int .i64 e.client) ∧ v5.cell? ⟨b, 1, none⟩ = some (.int .u64 e.nonce) ∧ v5.cell? ⟨b, 2, none⟩ = some (.int .u64 e.fee) ∧ v5.cell? ⟨b, 3, none⟩ = some (.int .i64 e.cipher) := ⟨cc5.cell hS4.1 (fun hm => by have := lo2 b hm; omega), cc5.cell hS4.2.1 (fun hm => by have := lo2 b hm; omega), cc5.cell hS4.2.2.1 (fun hm => by have := lo2 b hm; omega), cc5.cell hS4.2.2.2 (fun hm => by have := lo2 b hm; omega)⟩
      have ch5 := (ch4).trans' cc5 (fun z hz => .inr (lo2 z hz))
      refine hK.out _ _ hS5 (fun hHeld => ?_)
      clear hK K
      try simp only [Act.put, List.setIfInBounds_toArray, List.set_cons_succ, List.set_cons_zero]
      refine wpAnyH_take (i := 13) (v := ?_) rfl (by kernel_rfl) (by kernel_rfl) (by kernel_rfl) (fun c a w h => hP c a _ _ w h) (Or.inl ⟨by rfl, ?_⟩) hS5 ?_
      rotate_left
      · (intro w hSw; (try dsimp only at hSw); go_simp; (try (with_reducible rfl)))
      change wpAnyH _ _ _ _ _ _ _ (Act.put _ (some 8) _) _
      simp only [Act.put, List.setIfInBounds_toArray, List.set_cons_succ, List.set_cons_zero]
      refine wpAnyH_done (by kernel_rfl) ?_ _
      exact hQ _ v3 hR3 ch5 lo3 _ _ _ _ _ _ _ _ _ _ _ _ _
  · skip
    have hS01 := hS
    have cc1 : Chg [] v0 (v0.alloc (.cells #[.int .i64 e.client, .int .u64 e.nonce, .int .u64 e.fee, .int .i64 e.cipher] 32)) := (Chg.refl _ _).alloc _
    have Bg115 : Blk (v0.alloc (.cells #[.int .i64 e.client, .int .u64 e.nonce, .int .u64 e.fee, .int .i64 e.cipher] 32)) v0.heap.size 32 [.int .i64 e.client, .int .u64 e.nonce, .int .u64 e.fee, .int .i64 e.cipher] := Blk.new _ _ _
    have Lg115 := chW.size
    have NN1 : True := trivial
    have sz_1 := cc1.size
    go_simp
    generalize hg115 : v0.heap.size = g115 at *
    generalize v0.alloc _ = v1 at *
    have W81 := W8_0.chg cc1 (by simp)
    have hS1 : v1.cell? ⟨b, 0, none⟩ = some (.int .i64 e.client) ∧ v1.cell? ⟨b, 1, none⟩ = some (.int .u64 e.nonce) ∧ v1.cell? ⟨b, 2, none⟩ = some (.int .u64 e.fee) ∧ v1.cell? ⟨b, 3, none⟩ = some (.int .i64 e.cipher) := ⟨cc1.cell hS.1 (by simp), cc1.cell hS.2.1 (by simp), cc1.cell hS.2.2.1 (by simp), cc1.cell hS.2.2.2 (by simp)⟩
    have ch1 := (chW).trans' cc1 (by simp)
    refine hK.out _ _ hS1 (fun hHeld => ?_)
    clear hK K
    try simp only [Act.put, List.setIfInBounds_toArray, List.set_cons_succ, List.set_cons_zero]
    refine wpAnyH_ready (rs := [0]) (by kernel_rfl) (by simp) (AllReadyH.cons rfl (fun K hK => ?_) (AllReadyH.nil))
    have hS02 := hS1
    have cc2 : Chg [] v1 (v1.alloc (.cells #[] 32)) := (Chg.refl _ _).alloc _
    have Bg104 : Blk (v1.alloc (.cells #[] 32)) v1.heap.size 32 [] := Blk.new _ _ _
    have Lg104 := ch1.size
    have ltg115_2 := Bg115.lt
    have R02 : Erw (v1.alloc (.cells #[] 32)) (.slice (some ⟨v1.heap.size, 0, none⟩) 0 0) [] := Erw.fresh (Blk.new v1 [] 32)
    have sz_2 := cc2.size
    go_simp
    generalize hg104 : v1.heap.size = g104 at *
    generalize v1.alloc _ = v2 at *
    have W82 := W81.chg cc2 (by simp)
    have NN2 := NN1
    have g115_2 := Bg115.chg cc2 (by simp)
    have hS2 : v2.cell? ⟨b, 0, none⟩ = some (.int .i64 e.client) ∧ v2.cell? ⟨b, 1, none⟩ = some (.int .u64 e.nonce) ∧ v2.cell? ⟨b, 2, none⟩ = some (.int .u64 e.fee) ∧ v2.cell? ⟨b, 3, none⟩ = some (.int .i64 e.cipher) := ⟨cc2.cell hS1.1 (by simp), cc2.cell hS1.2.1 (by simp), cc2.cell hS1.2.2.1 (by simp), cc2.cell hS1.2.2.2 (by simp)⟩
    have ch2 := (ch1).trans' cc2 (by simp)
    refine hK.out _ _ hS2 (fun hHeld => ?_)
    clear hK K
    try simp only [Act.put, List.setIfInBounds_toArray, List.set_cons_succ, List.set_cons_zero]
    refine wpAnyH_ready (rs := [4]) (by kernel_rfl) (by simp) (AllReadyH.cons rfl (fun K hK => ?_) (AllReadyH.nil))
    have hS03 := hS2
    have szc := ch2.size
    have lug115_2 := g115_2.lt
    refine wp_app_env (.tmp 104) (.tmp 107) rfl rfl R02 _ _ _ (L.take k) rfl (by rw [List.length_take, HN.out]; omega) (EAt.take (W82.row hn0) k) (by simp; omega) ?_
    intro v1 v3 hR1 cc3 hat4
    have lo1 : ∀ z ∈ obl v1, W.heap.size ≤ z := fun z hz => (hat4 z hz).elim (fun q => by have := mem_one (show _ ∈ [g104] from q); omega) (fun q => by omega)
    have hR1 : Erw v3 v1 (L.take k) := hR1
    have N1 : g115 ∉ obl v1 := fun hm => (hat4 _ hm).elim (fun q => by have := mem_one (show _ ∈ [g104] from q); omega) (fun q => by omega)
    have W83 := W82.chg cc3 (fun z hz hm => by have := hlt8 z hz; have := mem_one (show _ ∈ [g104] from hm); omega)
    have NN3 := NN2
    have g115_3 := g115_2.chg cc3 (fun hm => by have := mem_one (show g115 ∈ [g104] from hm); omega)
    have hS3 : v3.cell? ⟨b, 0, none⟩ = some (.int .i64 e.client) ∧ v3.cell? ⟨b, 1, none⟩ = some (.int .u64 e.nonce) ∧ v3.cell? ⟨b, 2, none⟩ = some (.int .u64 e.fee) ∧ v3.cell? ⟨b, 3, none⟩ = some (.int .i64 e.cipher) := ⟨cc3.cell hS2.1 (fun hm => by have := mem_one (show b ∈ [g104] from hm); omega), cc3.cell hS2.2.1 (fun hm => by have := mem_one (show b ∈ [g104] from hm); omega), cc3.cell hS2.2.2.1 (fun hm => by have := mem_one (show b ∈ [g104] from hm); omega), cc3.cell hS2.2.2.2 (fun hm => by have := mem_one (show b ∈ [g104] from hm); omega)⟩
    have ch3 := (ch2).trans' cc3 (fun z hz => .inr (by have := mem_one (show _ ∈ [g104] from hz); omega))
    refine hK.out _ _ hS3 (fun hHeld => ?_)
    clear hK K
    try simp only [Act.put, List.setIfInBounds_toArray, List.set_cons_succ, List.set_cons_zero]
    refine wpAnyH_ready (rs := [9]) (by kernel_rfl) (by simp) (AllReadyH.cons rfl (fun K hK => ?_) (AllReadyH.nil))
    have hS04 := hS3
    have szc := ch3.size
    have lug115_3 := g115_3.lt
    refine wp_app_env (.tmp 108) (.tmp 112) rfl rfl hR1 _ _ _ (L.drop (k + 1)) rfl (by rw [List.length_drop, HN.out]) (EAt.nil _ (List.drop_eq_nil_of_le (by rw [HN.out, hnk.out]; exact Nat.le_refl _))) (by rw [List.length_take, HN.out]; omega) ?_
    intro v2 v4 hR2 cc4 hat9
    have lo2 : ∀ z ∈ obl v2, W.heap.size ≤ z := fun z hz => (hat9 z hz).elim (fun q => lo1 z q) (fun q => by omega)
    have N2 : g115 ∉ obl v2 := fun hm => (hat9 _ hm).elim (fun q => (by first | exact N1 q | exact NN3 q)) (fun q => by omega)
    have W84 := W83.chg cc4 (fun z hz hm => by have := hlt8 z hz; have := lo1 z hm; omega)
    have NN4 := NN3
    have g115_4 := g115_3.chg cc4 (fun hm => absurd hm (by first | exact N1 | exact NN3))
    have hS4 : v4.cell? ⟨b, 0, none⟩ = some (.int .i64 e.client) ∧ v4.cell? ⟨b, 1, none⟩ = some (.int .u64 e.nonce) ∧ v4.cell? ⟨b, 2, none⟩ = some (.int .u64 e.fee) ∧ v4.cell? ⟨b, 3, none⟩ = some (.int .i64 e.cipher) := ⟨cc4.cell hS3.1 (fun hm => by have := lo1 b hm; omega), cc4.cell hS3.2.1 (fun hm => by have := lo1 b hm; omega), cc4.cell hS3.2.2.1 (fun hm => by have := lo1 b hm; omega), cc4.cell hS3.2.2.2 (fun hm => by have := lo1 b hm; omega)⟩
    have ch4 := (ch3).trans' cc4 (fun z hz => .inr (lo1 z hz))
    refine hK.out _ _ hS4 (fun hHeld => ?_)
    clear hK K
    try simp only [Act.put, List.setIfInBounds_toArray, List.set_cons_succ, List.set_cons_zero]
    refine wpAnyH_ready (rs := [12]) (by kernel_rfl) (by simp) (AllReadyH.cons rfl (fun K hK => ?_) (AllReadyH.nil))
    have hS05 := hS4
    have szc := ch4.size
    refine wp_app_env (.tmp 113) (.tmp 115) rfl rfl hR2 _ _ _ [e] rfl rfl (EAt.one g115_4) (by rw [List.length_append, List.length_take, List.length_drop, HN.out]; omega) ?_
    intro v3 v5 hR3 cc5 hat12
    have lo3 : ∀ z ∈ obl v3, W.heap.size ≤ z := fun z hz => (hat12 z hz).elim (fun q => lo2 z q) (fun q => by omega)
    have NN5 := NN4
    have g115_5 := g115_4.chg cc5 (fun hm => absurd hm (by first | exact N2 | exact NN4))
    have hS5 : v5.cell? ⟨b, 0, none⟩ = some (.int .i64 e.client) ∧ v5.cell? ⟨b, 1, none⟩ = some (.int .u64 e.nonce) ∧ v5.cell? ⟨b, 2, none⟩ = some (.int .u64 e.fee) ∧ v5.cell? ⟨b, 3, none⟩ = some (.int .i64 e.cipher) := ⟨cc5.cell hS4.1 (fun hm => by have := lo2 b hm; omega), cc5.cell hS4.2.1 (fun hm => by have := lo2 b hm; omega), cc5.cell hS4.2.2.1 (fun hm => by have := lo2 b hm; omega), cc5.cell hS4.2.2.2 (fun hm => by have := lo2 b hm; omega)⟩
    have ch5 := (ch4).trans' cc5 (fun z hz => .inr (lo2 z hz))
    refine hK.out _ _ hS5 (fun hHeld => ?_)
    clear hK K
    try simp only [Act.put, List.setIfInBounds_toArray, List.set_cons_succ, List.set_cons_zero]
    refine wpAnyH_take (i := 13) (v := ?_) rfl (by kernel_rfl) (by kernel_rfl) (by kernel_rfl) (fun c a w h => hP c a _ _ w h) (Or.inl ⟨by rfl, ?_⟩) hS5 ?_
    rotate_left
    · (intro w hSw; (try dsimp only at hSw); go_simp; (try (with_reducible rfl)))
    change wpAnyH _ _ _ _ _ _ _ (Act.put _ (some 8) _) _
    simp only [Act.put, List.setIfInBounds_toArray, List.set_cons_succ, List.set_cons_zero]
    refine wpAnyH_done (by kernel_rfl) ?_ _
    exact hQ _ v3 hR3 ch5 lo3 _ _ _ _ _ _ _ _ _ _ _ _ _
end Go.Proofs.Yteabcpmpcbjicaa
