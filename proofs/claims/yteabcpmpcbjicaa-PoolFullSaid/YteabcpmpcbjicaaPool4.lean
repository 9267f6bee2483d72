
import Derived.Test.YteabcpmpcbjicaaPool3
namespace Go.Proofs.Yteabcpmpcbjicaa
set_option linter.unusedVariables false
set_option maxRecDepth 100000
open Go Go.Proofs Go.RowKit Go.Maps
attribute [local go_sem ↓] Go.wp_at_zero Go.wp_at_succ

/-- The fees of a client's envelopes with another one. -/
def fsE (e : Env) (L : List Env) : List Int := e.fee :: (L.filter (fun x => decide (x.client = e.client))).map Env.fee
theorem fsE_len (e : Env) (L : List Env) : (fsE e L).length ≤ L.length + 1 := by
  unfold fsE
  have := List.length_filter_le (fun x => decide (x.client = e.client)) L
  simp; omega
theorem take_snocE {L : List Env} {k : Nat} (h : k < L.length) : L.take (k + 1) = L.take k ++ [L.getD k Env.zero] := by
  rw [List.take_succ_eq_append_getElem h]
  simp [List.getD, h]
theorem getD_memE {L : List Env} {k : Nat} (h : k < L.length) : L.getD k Env.zero ∈ L := by simp [List.getD, h]
theorem fsE_snoc (e : Env) (L : List Env) (x : Env) : fsE e (L ++ [x]) = if x.client = e.client then fsE e L ++ [x.fee] else fsE e L := by
  unfold fsE
  by_cases h : x.client = e.client <;> simp [List.filter_append, h]
theorem fsE_U {e : Env} {L : List Env} (he : U e.fee) (hL : ∀ x ∈ L, U x.fee) : ∀ z ∈ fsE e L, U z := by
  intro z hz
  unfold fsE at hz
  rcases List.mem_cons.1 hz with h | h
  · rw [h]; exact he
  · obtain ⟨x, hx, rfl⟩ := List.mem_map.1 h
    exact hL x (List.mem_filter.1 hx).1
theorem nsl_at {w : World} {a : Option Addr} {cap : Nat} {L : List Env} (h : Nsl w a cap L) {k : Nat} (hk : k < L.length) : ∃ g, a = some ⟨g, 0, none⟩ ∧ Nrow w g L := by
  rcases h with ⟨_, _, h⟩ | h
  · rw [h] at hk; simp at hk
  · exact h
set_option maxHeartbeats 4000000 in
theorem pFees {w : World} {g p : Nat} {F : List Nat} {most : Int} {L : List Env} (h : PoM w g p F most L) (hL : L.length ≤ 2000) (e : Env) (he : U e.fee) (hu : ∀ x ∈ L, U x.fee) :
    Calls Try.prog 61 #[.pointer (some ⟨p, 0, none⟩), nv e] w fun y w' => y = .returned (.tuple #[.int .u64 (cSumN (fsE e L)), .bool (cSumB (fsE e L))]) ∧ Chg [] w w' := by
  obtain ⟨i0, hi, hz0, hz1, hz2⟩ := info_parts info_u64
  obtain ⟨n, hn⟩ : ∃ n, L.length = n := ⟨_, rfl⟩
  have hbx : Blk (w.alloc (.cells #[.int .i64 e.client, .int .u64 e.nonce, .int .u64 e.fee, .int .i64 e.cipher] 32)) w.heap.size 32 (nc e) := Blk.new w (nc e) 32
  have cA : Chg [] w (w.alloc (.cells #[.int .i64 e.client, .int .u64 e.nonce, .int .u64 e.fee, .int .i64 e.cipher] 32)) := (Chg.refl _ _).alloc _
  obtain ⟨v, hd, ho, hv⟩ := (h.to cA).hd
  rw [hn] at ho hL
  obtain ⟨a, c, rfl, hl, hs, -⟩ := own_nsl ho
  have d2 := hd.at (i := 2) rfl
  have HN := Lib.hid hn
  have HS := Lib.hid hs
  have HC := Lib.hid cA
  have HE := Lib.hid he
  have HU := Lib.hid hu
  have hsA : (w.alloc (.cells #[.int .i64 e.client, .int .u64 e.nonce, .int .u64 e.fee, .int .i64 e.cipher] 32)).heap.size = w.heap.size + 1 := by simp
  clear hn ho hl hs cA h hv he hu
  go_enter Try.func61, Try.ntmps61
  go_upto_region 1 with (fail)
  obtain ⟨b1, hb1⟩ : ∃ b, w.heap.size = b := ⟨_, rfl⟩
  rw [hb1] at hbx hsA
  have HB1 := Lib.hid hb1
  simp only [hb1]
  clear hb1
  generalize w.alloc _ = w1 at *
  have y2 := hbx.at (i := 2) rfl
  have hbl := hbx.lt
  have hown0 : (w1.alloc (.cells #[.int .u64 e.fee] 30)).ownsRow w1.heap.size 30 1 (.slice (some ⟨w1.heap.size, 0, none⟩) 1 1) 1 ([e.fee].map (Value.int .u64)) :=
    ⟨by simp, .inr ⟨w1.heap.size, 1, #[.int .u64 e.fee], rfl, Nat.le_refl _, heap_new _ _, by omega, by unfold maxLen; omega, rfl, rfl⟩⟩
  have cB : Chg [] w1 (w1.alloc (.cells #[.int .u64 e.fee] 30)) := (Chg.refl _ _).alloc _
  have HBX := Lib.hid hbx
  have d2 := cB.cell d2 (by simp)
  obtain ⟨K, hK⟩ : ∃ K, w1.heap.size = K := ⟨_, rfl⟩
  have hbK : b1 < K := by omega
  rw [hK] at hown0
  have HOWN : Hid ((w1.alloc (.cells #[.int .u64 e.fee] 30)).ownsRow K 30 1 (.slice (some ⟨K, 0, none⟩) 1 1) (fsE e (L.take 0)).length ((fsE e (L.take 0)).map (Value.int .u64))) := hown0
  have HCB := Lib.hid cB
  have HKW : Hid (w1.heap.size = K) := hK
  clear cB hown0 hbx hsA hbl
  go_upto_region 2 with (fail)
  (try simp only [hK])
  clear hK
  generalize w1.alloc _ = w2 at *
  go_wp2_with fail
  go_loopw [6, 17] (fun v i wr => ∃ (k : Nat), k ≤ n ∧ i = .int .i64 k ∧ Hid (Chg [] w1 wr) ∧ Hid (wr.ownsRow K 30 1 v (fsE e (L.take k)).length ((fsE e (L.take k)).map (Value.int .u64)))) (fun _ i _ => n - (intOf i).toNat)
  case atStart => exact ⟨0, by omega, rfl, HCB, HOWN⟩
  case round =>
    clear HCB HOWN d2
    obtain ⟨k, hk, rfl, HCB, HOWN⟩ := hrel
    have hfl : (fsE e (L.take k)).length ≤ 3000 := by have := fsE_len e (L.take k); rw [List.length_take] at this; omega
    by_cases hlt : k < n
    · have hkl : k < L.length := by rw [HN.out]; exact hlt
      obtain ⟨gq, rfl, hrow⟩ := nsl_at HS.out hkl
      obtain ⟨c0, c1, c2, c3⟩ := Nrow.at (Beg.chg hrow HCB.out (by simp)) hkl
      have hsn : fsE e (L.take (k + 1)) = if (L.getD k Env.zero).client = e.client then fsE e (L.take k) ++ [(L.getD k Env.zero).fee] else fsE e (L.take k) := by rw [take_snocE hkl, fsE_snoc]
      have HSN := Lib.hid hsn
      have hUx := HU.out _ (getD_memE hkl)
      generalize L.getD k Env.zero = x at *
      have i1 : (0 : Int) ≤ (k : Int) := by omega
      have i2 : (k : Int) < (n : Int) := by omega
      have i3 : (k : Int) < 2000 := by omega
      have hb8 : Blk (wr.alloc (.cells #[.int .i64 x.client, .int .u64 x.nonce, .int .u64 x.fee, .int .i64 x.cipher] 32)) wr.heap.size 32 (nc x) := Blk.new wr (nc x) 32
      have cD : Chg [] wr (wr.alloc (.cells #[.int .i64 x.client, .int .u64 x.nonce, .int .u64 x.fee, .int .i64 x.cipher] 32)) := (Chg.refl _ _).alloc _
      have hC2 := HCB.out.trans cD
      have hbx2 := HBX.out.chg hC2 (by simp)
      have HO2 := Lib.hid (own_chg2 HOWN.out cD (by simp))
      have hKs : K ≤ wr.heap.size := by have := HCB.out.size; have := HKW.out; omega
      clear hrow hkl HOWN HCB cD hUx hsn
      go_upto_region 5 with (fail)
      clear c0 c1 c2 c3
      generalize hb9 : wr.heap.size = b8 at *
      clear hb9
      generalize wr.alloc _ = W1 at *
      have z0 := hb8.at (i := 0) rfl
      have z2 := hb8.at (i := 2) rfl
      have z0' := hbx2.at (i := 0) rfl
      by_cases hc : x.client = e.client
      · have dq : (x.client == e.client) = true := by simp [hc]
        have hsn2 : Hid (fsE e (L.take (k + 1)) = fsE e (L.take k) ++ [x.fee]) := by have := HSN.out; rw [if_pos hc] at this; exact this
        clear hc HSN
        obtain ⟨m, hm⟩ : ∃ m, (fsE e (L.take k)).length = m := ⟨_, rfl⟩
        rw [hm] at HO2 hfl
        have HM := Lib.hid hm
        have hlW := HO2.out
        have hKW := hC2.size
        clear hm
        go_wp2_with (at_builtin; refine wpList_append_own _ rfl (.tmp 26) (.tmp 29) 22 rfl K 30 i0 (.int .u64 0) 1 8 Try.underlying22 hi hz0 hz1 hz2 rfl (by decide) _ _ _ rfl (HO2.out.alloc _) ⟨W1.heap.size, 0, none⟩ 1 1 [.int .u64 x.fee] rfl rfl ?c1 ?c2 ?c3 ?c4 ?c5 ?_)
        case c1 => exact fun j u h => one_at _ _ _ (by simp) j u h
        case c2 => simp [Value.oneCell']
        case c3 => unfold maxLen; omega
        case c4 => omega
        case c5 => have := HKW.out; simp; omega
        intro v' w3 hown1 hg1 _
        have hc1 : Chg [] w1 w3 := (hC2.alloc _).grown hg1 (fun j hj => .inr (by have := own_base HO2.out j hj; have := HKW.out; omega))
        have HC1 := Lib.hid hc1
        have HO3 : Hid (w3.ownsRow K 30 1 v' (fsE e (L.take (k + 1))).length ((fsE e (L.take (k + 1))).map (Value.int .u64))) := by
          show w3.ownsRow _ _ _ _ _ _
          rw [hsn2.out]
          have : (fsE e (L.take k) ++ [x.fee]).length = m + 1 := by rw [List.length_append, HM.out]; rfl
          rw [this, List.map_append]
          exact hown1
        clear hg1 hown1 hc1 hC2 HO2 hlW
        go_wp2_with fail
        go_roundw
        case rel => exact ⟨k + 1, by omega, by go_num, HC1, HO3⟩
        case measure => simp [intOf]; omega
      · have dq : (x.client == e.client) = false := by simp [hc]
        have hsn2 : Hid (fsE e (L.take (k + 1)) = fsE e (L.take k)) := by have := HSN.out; rw [if_neg hc] at this; exact this
        have HC1 := Lib.hid hC2
        clear hc HSN hC2
        rw [← hsn2.out] at HO2
        go_wp2_with fail
        go_roundw
        case rel => exact ⟨k + 1, by omega, by go_num, HC1, HO2⟩
        case measure => simp [intOf]; omega
    · have e9 : n = k := by omega
      subst e9
      have hft : L.take n = L := List.take_of_length_le (by rw [HN.out]; exact Nat.le_refl _)
      rw [hft] at HOWN hfl
      obtain ⟨a', c', hv'⟩ := own_slice HOWN.out
      subst hv'
      have hrow : Row64 wr a' (fsE e L) := row64_owned HOWN.out
      have HR := Lib.hid hrow
      obtain ⟨m, hm⟩ : ∃ m, (fsE e L).length = m := ⟨_, rfl⟩
      rw [hm] at hfl
      have HM := Lib.hid hm
      (try rw [hm])
      have hUf := fsE_U HE.out HU.out
      have HUf := Lib.hid hUf
      clear hrow HOWN hft hm hUf hlt
      go_wp2_with fail
      refine (sum_any _ _ _ (fsE e L) _ HM.out.symm HUf.out (by rw [HM.out]; omega) HR.out).mono ?_
      rintro y w3 ⟨rfl, rfl⟩
      go_wp2_with fail
      go_ret2
      exact ⟨rfl, HC.out.trans HCB.out⟩
/-- Where the least fee is, the last one of several. -/
def bst (L : List Env) : Nat → Int
  | 0 => -1
  | k + 1 => if bst L k < 0 ∨ (L.getD k Env.zero).fee ≤ (L.getD (bst L k).toNat Env.zero).fee then (k : Int) else bst L k
theorem bst_rng (L : List Env) : ∀ k, (k = 0 ∧ bst L k = -1) ∨ (0 ≤ bst L k ∧ bst L k < k)
  | 0 => .inl ⟨rfl, rfl⟩
  | k + 1 => by
    have ih := bst_rng L k
    right
    unfold bst
    split
    · omega
    · rename_i h
      rcases ih with ⟨_, e⟩ | ⟨e1, e2⟩
      · exact absurd (.inl (by omega)) h
      · omega
set_option maxHeartbeats 4000000 in
theorem pLeast {w : World} {g p : Nat} {F : List Nat} {most : Int} {L : List Env} (h : PoM w g p F most L) (hL : L.length ≤ 2000) :
    Calls Try.prog 62 #[.pointer (some ⟨p, 0, none⟩)] w fun y w' => y = .returned (.int .i64 (bst L L.length)) ∧ Chg [] w w' := by
  obtain ⟨n, hn⟩ : ∃ n, L.length = n := ⟨_, rfl⟩
  obtain ⟨v, hd, ho, hv⟩ := h.hd
  rw [hn] at ho hL ⊢
  obtain ⟨a, c, rfl, hl, hs, -⟩ := own_nsl ho
  have d2 := hd.at (i := 2) rfl
  have HD := Lib.hid hd
  have HN := Lib.hid hn
  have HS := Lib.hid hs
  clear hn ho hl hs h hv hd
  go_enter Try.func62, Try.ntmps62
  go_wp2_with fail
  go_loopw [3, 11] (fun b i wr => ∃ (k : Nat), k ≤ n ∧ i = .int .i64 k ∧ b = .int .i64 (bst L k) ∧ Hid (Chg [] w wr)) (fun _ i _ => n - (intOf i).toNat)
  case atStart => exact ⟨0, by omega, rfl, rfl, Chg.refl _ _⟩
  case round =>
    clear d2
    obtain ⟨k, hk, rfl, rfl, HC⟩ := hrel
    by_cases hlt : k < n
    · have hkl : k < L.length := by rw [HN.out]; exact hlt
      obtain ⟨gq, rfl, hrow⟩ := nsl_at HS.out hkl
      have hrow2 := Beg.chg hrow HC.out (by simp)
      obtain ⟨c0, c1, c2, c3⟩ := Nrow.at hrow2 hkl
      have hbs : Hid (bst L (k + 1) = if bst L k < 0 ∨ (L.getD k Env.zero).fee ≤ (L.getD (bst L k).toNat Env.zero).fee then (k : Int) else bst L k) := rfl
      have hrg := bst_rng L k
      have cD : Chg [] wr (wr.alloc (.cells #[.int .i64 (L.getD k Env.zero).client, .int .u64 (L.getD k Env.zero).nonce, .int .u64 (L.getD k Env.zero).fee, .int .i64 (L.getD k Env.zero).cipher] 32)) := (Chg.refl _ _).alloc _
      have hrow3 := Beg.chg hrow2 cD (by simp)
      have HC2 := Lib.hid (HC.out.trans cD)
      have hb8 : Blk (wr.alloc (.cells #[.int .i64 (L.getD k Env.zero).client, .int .u64 (L.getD k Env.zero).nonce, .int .u64 (L.getD k Env.zero).fee, .int .i64 (L.getD k Env.zero).cipher] 32)) wr.heap.size 32 (nc (L.getD k Env.zero)) := Blk.new wr (nc (L.getD k Env.zero)) 32
      have d2 := (HD.out.chg HC2.out (by simp)).at (i := 2) rfl
      have i1 : (0 : Int) ≤ (k : Int) := by omega
      have i2 : (k : Int) < (n : Int) := by omega
      have i3 : (k : Int) < 2000 := by omega
      obtain ⟨b, hb⟩ : ∃ b, bst L k = b := ⟨_, rfl⟩
      rw [hb] at hbs hrg ⊢
      clear hb hrow hrow2 HC cD
      rcases hrg with ⟨hk0, hb⟩ | ⟨hb0, hbk⟩
      · subst hb
        have hbs2 : Hid (bst L (k + 1) = (k : Int)) := by have := hbs.out; rw [if_pos (.inl (by omega))] at this; exact this
        clear hrow3 hbs hkl hk0
        generalize L.getD k Env.zero = x at *
        go_upto_region 5 with (fail)
        clear c0 c1 c2 c3
        generalize hb9 : wr.heap.size = b8 at *
        clear hb9
        generalize wr.alloc _ = W1 at *
        have z2 := hb8.at (i := 2) rfl
        go_quiet (fail)
        have HC3 := Lib.hid (HC2.out.drewN nq)
        clear z2 hb8 d2 HC2
        go_wp2_with fail
        go_roundw
        case rel => exact ⟨k + 1, by omega, by go_num, by rw [hbs2.out], HC3⟩
        case measure => simp [intOf]; omega
      · obtain ⟨j, rfl⟩ : ∃ j : Nat, b = j := ⟨b.toNat, by omega⟩
        have hjl : j < L.length := by rw [HN.out]; omega
        obtain ⟨-, -, e2, -⟩ := Nrow.at hrow3 hjl
        have hbs2 : Hid (bst L (k + 1) = if (L.getD k Env.zero).fee ≤ (L.getD j Env.zero).fee then (k : Int) else (j : Int)) := by
          have := hbs.out
          rw [show ((j : Int)).toNat = j from by omega] at this
          rw [this]
          by_cases q : (L.getD k Env.zero).fee ≤ (L.getD j Env.zero).fee
          · rw [if_pos (.inr q), if_pos q]; rfl
          · rw [if_neg (by rintro (z | z); omega; exact q z), if_neg q]; rfl
        have hdl : decide ((j : Int) < 0) = false := by simp
        have i4 : (j : Int) < (n : Int) := by omega
        have i5 : (0 : Int) ≤ (j : Int) := by omega
        clear hrow3 hbs hkl hjl hb0 hbk
        generalize L.getD k Env.zero = x at *
        generalize L.getD j Env.zero = y at *
        go_upto_region 5 with (fail)
        clear c0 c1 c2 c3
        generalize hb9 : wr.heap.size = b8 at *
        clear hb9
        generalize wr.alloc _ = W1 at *
        have z2 := hb8.at (i := 2) rfl
        by_cases q : x.fee ≤ y.fee
        · have dq : decide (x.fee ≤ y.fee) = true := by simpa using q
          have hbs3 : Hid (bst L (k + 1) = (k : Int)) := by have := hbs2.out; rw [if_pos q] at this; exact this
          clear q hbs2
          go_quiet (fail)
          have HC3 := Lib.hid (HC2.out.drewN nq)
          clear z2 hb8 d2 HC2 e2
          go_wp2_with fail
          go_roundw
          case rel => exact ⟨k + 1, by omega, by go_num, by rw [hbs3.out], HC3⟩
          case measure => simp [intOf]; omega
        · have dq : decide (x.fee ≤ y.fee) = false := by simpa using q
          have hbs3 : Hid (bst L (k + 1) = (j : Int)) := by have := hbs2.out; rw [if_neg q] at this; exact this
          clear q hbs2
          go_quiet (fail)
          have HC3 := Lib.hid (HC2.out.drewN nq)
          clear z2 hb8 d2 HC2 e2
          go_wp2_with fail
          go_roundw
          case rel => exact ⟨k + 1, by omega, by go_num, by rw [hbs3.out], HC3⟩
          case measure => simp [intOf]; omega
    · have e9 : n = k := by omega
      subst e9
      go_wp2_with fail
      go_ret
      exact ⟨rfl, HC.out⟩
end Go.Proofs.Yteabcpmpcbjicaa
