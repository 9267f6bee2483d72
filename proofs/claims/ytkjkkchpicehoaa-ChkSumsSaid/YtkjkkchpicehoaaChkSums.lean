import Derived.Test.YtkjkkchpicehoaaLaw1
import Derived.Laws.AppendOwnNone
import Derived.Deep.CutBlock
namespace Go.Proofs.Ytkjkkchpicehoaa
set_option linter.unusedVariables false
open Go Go.Proofs Go.RowKit

theorem sumFrom_append (l m : List Int) : ∀ s, sumFrom s (l ++ m) = (sumFrom s l).bind fun t => sumFrom t m := by
  induction l with
  | nil => intro s; rfl
  | cons x l ih => intro s; simp only [List.cons_append, sumFrom]; split <;> simp [ih]

def isum : List Int → Int
  | [] => 0
  | x :: l => x + isum l
theorem isum_append (l m : List Int) : isum (l ++ m) = isum l + isum m := by
  induction l with
  | nil => simp [isum]
  | cons x l ih => simp [isum, ih, Int.add_assoc]
theorem isum_reverse (l : List Int) : isum l.reverse = isum l := by
  induction l with
  | nil => rfl
  | cons x l ih => simp [isum, isum_append, ih, Int.add_comm]
theorem isum_nonneg (l : List Int) (h : ∀ x ∈ l, 0 ≤ x) : 0 ≤ isum l := by
  induction l with
  | nil => simp [isum]
  | cons x l ih => have := h x (by simp); have := ih fun y hy => h y (by simp [hy]); simp [isum]; omega
/-- A sum is the plain sum, where no part of it is too much: of numbers that are not below 0 the whole is the greatest part. -/
theorem sumFrom_eq (l : List Int) : ∀ s, s < 18446744073709551616 → (∀ x ∈ l, 0 ≤ x) → sumFrom s l = if s + isum l < 18446744073709551616 then some (s + isum l) else none := by
  induction l with
  | nil => intro s hs _; simp [sumFrom, isum, hs]
  | cons x l ih =>
    intro s hs h
    have hx := h x (by simp)
    have hl : 0 ≤ isum l := isum_nonneg _ fun y hy => h y (by simp [hy])
    have e : isum (x :: l) = x + isum l := rfl
    have e2 : s + x + isum l = s + isum (x :: l) := by omega
    by_cases g : s + x < 18446744073709551616
    · have e1 : sumFrom s (x :: l) = sumFrom (s + x) l := if_pos g
      rw [e1, ih _ g fun y hy => h y (by simp [hy]), e2]
    · have e1 : sumFrom s (x :: l) = none := if_neg g
      rw [if_neg (by omega), e1]
theorem sum_facts (l : List Int) (h : ∀ x ∈ l, U x) : cSumN l = (if isum l < 18446744073709551616 then isum l else 0) ∧ cSumB l = decide (isum l < 18446744073709551616) := by
  have e := sumFrom_eq l 0 (by omega) fun x hx => (h x hx).1
  rw [Int.zero_add] at e
  unfold cSumN cSumB
  rw [e]
  by_cases g : isum l < 18446744073709551616 <;> simp [g]

theorem A_info : (Try.prog.info? 22).map (fun i => (i.zero, i.size, i.bytes)) = some (some (.int .u64 0), 1, 8) := by kernel_rfl

theorem add_none (b off k : Nat) : (Addr.mk b off none).add k = ⟨b, off + k, none⟩ := by
  unfold Addr.add; split
  · subst_vars; rfl
  · rfl
theorem cell_block {w : World} {a : Addr} {v : Value} (h : w.cell? a = some v) : a.block < w.heap.size := by
  unfold World.cell? at h
  split at h
  · rename_i h2; exact (Array.getElem?_eq_some_iff.1 h2).1
  · simp at h
theorem row64_take {w : World} {s : Option Addr} {l : List Int} (h : Row64 w s l) (k : Nat) : Row64 w s (l.take k) := by
  rcases h with rfl | ⟨b, off, rfl, hc⟩
  · exact .inl (by simp)
  · refine .inr ⟨b, off, rfl, fun j hj => ?_⟩
    have hj' : j < k ∧ j < l.length := by simp at hj; omega
    rw [hc j hj'.2]; simp [List.getD, hj'.1]
theorem row64_drop {w : World} {s : Option Addr} {l : List Int} (h : Row64 w s l) (k : Nat) : Row64 w (Option.map (fun x => x.add k) s) (l.drop k) := by
  rcases h with rfl | ⟨b, off, rfl, hc⟩
  · exact .inl (by simp)
  · refine .inr ⟨b, off + k, by simp [add_none], fun j hj => ?_⟩
    have hj' : k + j < l.length := by simp at hj; omega
    rw [Nat.add_assoc, hc (k + j) hj']; simp [List.getD]

theorem row64_below {w w' : World} {s : Option Addr} {l : List Int} (h : Row64 w s l) (hb : Below w.heap.size w w') : Row64 w' s l := by
  rcases h with rfl | ⟨b, off, rfl, hc⟩
  · exact .inl rfl
  · refine .inr ⟨b, off, rfl, fun j hj => ?_⟩
    have h0 := hc j hj
    rw [← h0]
    exact hb.cell (p := ⟨b, off + j, none⟩) (cell_block h0)
theorem row64_cell {w : World} {s : Option Addr} {l : List Int} (h : Row64 w s l) {j : Nat} (hj : j < l.length) : ∃ b off, s = some ⟨b, off, none⟩ ∧ w.cell? ⟨b, off + j, none⟩ = some (.int .u64 (l.getD j 0)) := by
  rcases h with rfl | ⟨b, off, rfl, hc⟩
  · simp at hj
  · exact ⟨b, off, rfl, hc j hj⟩
theorem row64_owned {w : World} {base n : Nat} {T : TypeId} {a : Option Addr} {cap : Nat} {l : List Int} (h : w.ownsRow base T 1 (.slice a n cap) n (l.map (Value.int .u64))) : Row64 w a l := by
  obtain ⟨h1, h2⟩ := h
  rcases h2 with ⟨h2, h3⟩ | ⟨g, c, cur, hv, hg, hh, hn, hc, hs, ht⟩
  · subst h3; left; simpa using h1
  · right
    injection hv with e1 e2 e3
    refine ⟨g, 0, e1, fun j hj => ?_⟩
    simp only [World.cell?, hh, Nat.zero_add]
    have hjn : j < n * 1 := by simp at h1; omega
    have e : (cur.toList.take (n * 1))[j]? = (l.map (Value.int .u64))[j]? := by rw [ht]
    rw [List.getElem?_take, if_pos hjn] at e
    simp [hj] at e
    simp [hj, List.getD, e]

theorem one_new (w : World) (v : Value) (T : TypeId) (j : Nat) (u : Value) (h : [v][j]? = some u) : (w.alloc (.cells #[v] T)).cell? ((Addr.mk w.heap.size 0 none).add j) = some u := by
  have hj : j = 0 := by
    rcases Nat.lt_or_ge j 1 with h1 | h1
    · omega
    · rw [List.getElem?_eq_none (by simpa using h1)] at h; simp at h
  subst hj
  simp at h
  subst h
  simp only [add_none, World.cell?, heap_new]
  simp
theorem own_base {w : World} {base n : Nat} {T : TypeId} {sz : Nat} {v : Value} {xs : List Value} (h : w.ownsRow base T sz v n xs) : ∀ k, v.ownBlock = some k → base ≤ k := by
  intro k hk
  rcases h.2 with ⟨rfl, _⟩ | ⟨g, c, cur, rfl, hg, _⟩
  · simp [Value.ownBlock] at hk
  · simp [Value.ownBlock] at hk; omega
theorem own_empty (w : World) (T : TypeId) {base : Nat} (h : base ≤ w.heap.size) : (w.alloc (.cells #[] T)).ownsRow base T 1 (.slice (some ⟨w.heap.size, 0, none⟩) 0 0) 0 [] :=
  ⟨by simp, .inr ⟨w.heap.size, 0, #[], rfl, h, heap_new _ _, by omega, by unfold maxLen; omega, by simp, by simp⟩⟩
theorem own_slice {w : World} {base n : Nat} {T : TypeId} {sz : Nat} {v : Value} {xs : List Value} (h : w.ownsRow base T sz v n xs) : ∃ a c, v = .slice a n c := by
  rcases h.2 with ⟨rfl, h0⟩ | ⟨g, c, cur, rfl, _⟩
  · exact ⟨none, 0, by rw [h0]⟩
  · exact ⟨_, _, rfl⟩
theorem vint {k : IntKind} {a b : Int} (h : a = b) : Value.int k a = .int k b := by rw [h]
def revTake (l : List Int) (j : Nat) : List Value := (l.reverse.take j).map (Value.int .u64)
theorem rev_snoc {l : List Int} {j : Nat} (h : j < l.length) : revTake l (j + 1) = revTake l j ++ [.int .u64 (l[l.length - 1 - j]?.getD 0)] := by
  unfold revTake
  rw [List.take_succ_eq_append_getElem (by simpa using h)]
  have h' : l.length - 1 - j < l.length := by omega
  simp [h', List.getElem_reverse]

set_option maxRecDepth 100000 in
set_option maxHeartbeats 4000000 in
theorem sums_core (s : Option Addr) (cap : Nat) (l : List Int) (at_ x S p q c m : Int) (ok y z zz more : Bool) (k : Nat) (w : World) (hx : U x) (HU : Hid (∀ x ∈ l, U x)) (hlc : l.length ≤ cap) (hm : l.length ≤ 9223372036854775807) (hr : Row64 w s l) (hl : ¬ 60 < l.length)
    (hk : k ≤ l.length) (hat : (bits BinOp.and IntKind.i64 at_ 255).tmod ((l.length : Int) + 1) = k)
    (s1 : Hid (cSumN l = S ∧ cSumB l = ok)) (s2 : Hid (cSumN (l.take k) = p ∧ cSumB (l.take k) = y)) (s3 : Hid (cSumN (l.drop k) = q ∧ cSumB (l.drop k) = z)) (s4 : Hid (U p ∧ U q ∧ cAddN p q = c ∧ cAddB p q = zz))
    (s5 : Hid (cSumN l.reverse = S ∧ cSumB l.reverse = ok)) (s6 : Hid (cSumN (l ++ [x]) = m ∧ cSumB (l ++ [x]) = more))
    (hc : (ok = true ∧ y = true ∧ z = true ∧ zz = true ∧ (c == S) = true) ∨ (ok = false ∧ more = false ∧ (y = false ∨ (y = true ∧ z = false) ∨ (y = true ∧ z = true ∧ zz = false)))) :
    Calls Try.prog 4 #[.slice s l.length cap, .int .i64 at_, .int .u64 x] w fun e w' => e = .returned (.bool true) ∧ Below w.heap.size w w' := by
  obtain ⟨i0, hi, hz0, hz1, hz2⟩ := info_parts A_info
  have HR := Lib.hid hr
  clear hr
  have HC := Lib.hid hc
  clear hc
  have hnone : Hid (s = none → l = []) := fun h => by
    rcases HR.out with h1 | ⟨b, off, h1, _⟩
    · exact h1
    · rw [h] at h1; cases h1
  have hsome : Hid (∀ wr, Below w.heap.size w wr → ∀ ad, s = some ad → ∀ j, j < l.length → wr.cell? (ad.add j) = some (.int .u64 (l.getD j 0))) := fun wr hb ad h j hj => by
    obtain ⟨b, off, h1, h2⟩ := row64_cell (row64_below HR.out hb) hj
    rw [h] at h1
    injection h1 with h1
    subst h1
    rw [add_none]; exact h2
  cases s <;> by_cases hcap : cap = k
  · have hnil : Hid (l = []) := hnone.out rfl
    go_enter Try.func4, Try.ntmps4
    go_wp2_with fail
    refine (sum_is _ _ _ l _ _ _ s1.out.1 s1.out.2 rfl HU.out hm HR.out).mono ?_
    rintro e w' ⟨rfl, rfl⟩
    go_wp2_with fail
    refine (sum_is _ _ _ (l.take k) _ _ _ s2.out.1 s2.out.2 (by simp; omega) (fun x hx => HU.out x (List.mem_of_mem_take hx)) (by simp; omega) (row64_take HR.out k)).mono ?_
    rintro e w' ⟨rfl, rfl⟩
    go_wp2_with fail
    refine (sum_is _ _ _ (l.drop k) _ _ _ s3.out.1 s3.out.2 (by simp) (fun x hx => HU.out x (List.mem_of_mem_drop hx)) (by simp; omega) (by first | exact row64_drop HR.out k | exact .inl (by simp; omega))).mono ?_
    rintro e w' ⟨rfl, rfl⟩
    go_wp2_with fail
    refine (add_is _ _ _ _ _ s4.out.1 s4.out.2.1 s4.out.2.2.1 s4.out.2.2.2).mono ?_
    rintro e w' ⟨rfl, rfl⟩
    go_wp2_with fail
    go_loopw [16, 17] (fun v i wr => ∃ j : Nat, j ≤ l.length ∧ i = .int .i64 ((l.length : Int) - 1 - j) ∧ Below w.heap.size w wr ∧ wr.ownsRow w.heap.size 22 1 v j (revTake l j)) (fun _ i _ => (intOf i + 1).toNat)
    case atStart => exact ⟨0, by omega, by simp, Below.refl _ _, by simp [revTake], .inl ⟨rfl, rfl⟩⟩
    case round =>
      obtain ⟨j, hj, rfl, hbel, hown⟩ := hrel
      by_cases hlt : j < l.length
      · exfalso; have := hnil.out; subst this; simp at hlt
      · obtain rfl : j = l.length := by omega
        obtain ⟨a', c', rfl⟩ := own_slice hown
        have hrow : Row64 wr a' l.reverse := by
          unfold revTake at hown; rw [List.take_of_length_le (by simp)] at hown
          exact row64_owned (w := wr) (base := w.heap.size) (n := l.length) (cap := c') hown
        clear hown
        go_wp2_with fail
        refine (sum_is _ _ _ l.reverse _ _ _ s5.out.1 s5.out.2 (by simp) (fun x hx => HU.out x (by simpa using hx)) (by simp; omega) hrow).mono ?_
        rintro e w' ⟨rfl, rfl⟩
        go_upto_region 14 with (fail)
        have hown2 : (wr.alloc (.cells #[] 22)).ownsRow w.heap.size 22 1 (.slice (some ⟨wr.heap.size, 0, none⟩) 0 0) 0 [] := own_empty wr 22 hbel.size
        have hb2 : Below w.heap.size w (wr.alloc (.cells #[] 22)) := hbel.alloc hbel.size _
        go_wp2_with (at_builtin; first | refine wpList_append_own_none _ rfl (.tmp 77) (.tmp 78) 29 rfl w.heap.size 22 i0 1 Try.underlying29 hi _ 0 [] rfl hown2 rfl ?_ | refine wpList_append_own _ rfl (.tmp 79) (.tmp 81) 29 rfl w.heap.size 22 i0 (.int .u64 0) 1 8 Try.underlying29 hi hz0 hz1 hz2 rfl (by decide) _ _ _ rfl (hown2.alloc _) ⟨wr.heap.size + 1, 0, none⟩ 1 1 [.int .u64 x] rfl rfl ?d1 ?d2 ?d3 ?d4 ?d5 ?_)
        case d1 => have := fun j u h => one_new (wr.alloc (.cells #[] 22)) (.int .u64 x) 22 j u h; simpa using this
        case d2 => simp [Value.oneCell']
        case d3 => unfold maxLen; omega
        case d4 => omega
        case d5 => have := hb2.size; simp at this ⊢; omega
        intro v3 W3 hown3 hg3 _
        have hb3 : Below w.heap.size w W3 := (hb2.alloc hb2.size _).grown hg3 (by have := hb2.size; simp at this ⊢; omega) (own_base hown2)
        obtain ⟨a3, c3, rfl⟩ := own_slice hown3
        have hrow3 : Row64 W3 a3 (l ++ [x]) := by rw [hnil.out]; exact row64_owned (w := W3) (base := w.heap.size) (T := 22) (n := 0 + 1) (cap := c3) (l := [x]) hown3
        clear hg3 hown3 hown2
        go_wp2_with fail
        refine (sum_is _ _ _ (l ++ [x]) _ _ _ s6.out.1 s6.out.2 (by rw [hnil.out]; rfl) (fun y hy => by rcases List.mem_append.1 hy with h | h; exact HU.out y h; simp at h; exact h ▸ hx) (by simp; omega) hrow3).mono ?_
        rintro e w' ⟨rfl, rfl⟩
        go_upto_region 15 with (fail)
        rcases HC.out with ⟨rfl, rfl, rfl, rfl, hcS⟩ | ⟨rfl, rfl, rfl | ⟨rfl, rfl⟩ | ⟨rfl, rfl, rfl⟩⟩
        all_goals
          go_wp2_with fail
          refine (awake1 _).mono ?_
          rintro e w' ⟨rfl, hw⟩
          go_wp2_with fail
          go_ret
          exact ⟨rfl, hb3.trans (hw.mono hb3.size)⟩
  · have hnil : Hid (l = []) := hnone.out rfl
    go_enter Try.func4, Try.ntmps4
    go_wp2_with fail
    refine (sum_is _ _ _ l _ _ _ s1.out.1 s1.out.2 rfl HU.out hm HR.out).mono ?_
    rintro e w' ⟨rfl, rfl⟩
    go_wp2_with fail
    refine (sum_is _ _ _ (l.take k) _ _ _ s2.out.1 s2.out.2 (by simp; omega) (fun x hx => HU.out x (List.mem_of_mem_take hx)) (by simp; omega) (row64_take HR.out k)).mono ?_
    rintro e w' ⟨rfl, rfl⟩
    go_wp2_with fail
    refine (sum_is _ _ _ (l.drop k) _ _ _ s3.out.1 s3.out.2 (by simp) (fun x hx => HU.out x (List.mem_of_mem_drop hx)) (by simp; omega) (by first | exact row64_drop HR.out k | exact .inl (by simp; omega))).mono ?_
    rintro e w' ⟨rfl, rfl⟩
    go_wp2_with fail
    refine (add_is _ _ _ _ _ s4.out.1 s4.out.2.1 s4.out.2.2.1 s4.out.2.2.2).mono ?_
    rintro e w' ⟨rfl, rfl⟩
    go_wp2_with fail
    go_loopw [16, 17] (fun v i wr => ∃ j : Nat, j ≤ l.length ∧ i = .int .i64 ((l.length : Int) - 1 - j) ∧ Below w.heap.size w wr ∧ wr.ownsRow w.heap.size 22 1 v j (revTake l j)) (fun _ i _ => (intOf i + 1).toNat)
    case atStart => exact ⟨0, by omega, by simp, Below.refl _ _, by simp [revTake], .inl ⟨rfl, rfl⟩⟩
    case round =>
      obtain ⟨j, hj, rfl, hbel, hown⟩ := hrel
      by_cases hlt : j < l.length
      · exfalso; have := hnil.out; subst this; simp at hlt
      · obtain rfl : j = l.length := by omega
        obtain ⟨a', c', rfl⟩ := own_slice hown
        have hrow : Row64 wr a' l.reverse := by
          unfold revTake at hown; rw [List.take_of_length_le (by simp)] at hown
          exact row64_owned (w := wr) (base := w.heap.size) (n := l.length) (cap := c') hown
        clear hown
        go_wp2_with fail
        refine (sum_is _ _ _ l.reverse _ _ _ s5.out.1 s5.out.2 (by simp) (fun x hx => HU.out x (by simpa using hx)) (by simp; omega) hrow).mono ?_
        rintro e w' ⟨rfl, rfl⟩
        go_upto_region 14 with (fail)
        have hown2 : (wr.alloc (.cells #[] 22)).ownsRow w.heap.size 22 1 (.slice (some ⟨wr.heap.size, 0, none⟩) 0 0) 0 [] := own_empty wr 22 hbel.size
        have hb2 : Below w.heap.size w (wr.alloc (.cells #[] 22)) := hbel.alloc hbel.size _
        go_wp2_with (at_builtin; first | refine wpList_append_own_none _ rfl (.tmp 77) (.tmp 78) 29 rfl w.heap.size 22 i0 1 Try.underlying29 hi _ 0 [] rfl hown2 rfl ?_ | refine wpList_append_own _ rfl (.tmp 79) (.tmp 81) 29 rfl w.heap.size 22 i0 (.int .u64 0) 1 8 Try.underlying29 hi hz0 hz1 hz2 rfl (by decide) _ _ _ rfl (hown2.alloc _) ⟨wr.heap.size + 1, 0, none⟩ 1 1 [.int .u64 x] rfl rfl ?d1 ?d2 ?d3 ?d4 ?d5 ?_)
        case d1 => have := fun j u h => one_new (wr.alloc (.cells #[] 22)) (.int .u64 x) 22 j u h; simpa using this
        case d2 => simp [Value.oneCell']
        case d3 => unfold maxLen; omega
        case d4 => omega
        case d5 => have := hb2.size; simp at this ⊢; omega
        intro v3 W3 hown3 hg3 _
        have hb3 : Below w.heap.size w W3 := (hb2.alloc hb2.size _).grown hg3 (by have := hb2.size; simp at this ⊢; omega) (own_base hown2)
        obtain ⟨a3, c3, rfl⟩ := own_slice hown3
        have hrow3 : Row64 W3 a3 (l ++ [x]) := by rw [hnil.out]; exact row64_owned (w := W3) (base := w.heap.size) (T := 22) (n := 0 + 1) (cap := c3) (l := [x]) hown3
        clear hg3 hown3 hown2
        go_wp2_with fail
        refine (sum_is _ _ _ (l ++ [x]) _ _ _ s6.out.1 s6.out.2 (by rw [hnil.out]; rfl) (fun y hy => by rcases List.mem_append.1 hy with h | h; exact HU.out y h; simp at h; exact h ▸ hx) (by simp; omega) hrow3).mono ?_
        rintro e w' ⟨rfl, rfl⟩
        go_upto_region 15 with (fail)
        rcases HC.out with ⟨rfl, rfl, rfl, rfl, hcS⟩ | ⟨rfl, rfl, rfl | ⟨rfl, rfl⟩ | ⟨rfl, rfl, rfl⟩⟩
        all_goals
          go_wp2_with fail
          refine (awake1 _).mono ?_
          rintro e w' ⟨rfl, hw⟩
          go_wp2_with fail
          go_ret
          exact ⟨rfl, hb3.trans (hw.mono hb3.size)⟩
  · skip
    go_enter Try.func4, Try.ntmps4
    go_wp2_with fail
    refine (sum_is _ _ _ l _ _ _ s1.out.1 s1.out.2 rfl HU.out hm HR.out).mono ?_
    rintro e w' ⟨rfl, rfl⟩
    go_wp2_with fail
    refine (sum_is _ _ _ (l.take k) _ _ _ s2.out.1 s2.out.2 (by simp; omega) (fun x hx => HU.out x (List.mem_of_mem_take hx)) (by simp; omega) (row64_take HR.out k)).mono ?_
    rintro e w' ⟨rfl, rfl⟩
    go_wp2_with fail
    refine (sum_is _ _ _ (l.drop k) _ _ _ s3.out.1 s3.out.2 (by simp) (fun x hx => HU.out x (List.mem_of_mem_drop hx)) (by simp; omega) (by first | exact row64_drop HR.out k | exact .inl (by simp; omega))).mono ?_
    rintro e w' ⟨rfl, rfl⟩
    go_wp2_with fail
    refine (add_is _ _ _ _ _ s4.out.1 s4.out.2.1 s4.out.2.2.1 s4.out.2.2.2).mono ?_
    rintro e w' ⟨rfl, rfl⟩
    go_wp2_with fail
    go_loopw [16, 17] (fun v i wr => ∃ j : Nat, j ≤ l.length ∧ i = .int .i64 ((l.length : Int) - 1 - j) ∧ Below w.heap.size w wr ∧ wr.ownsRow w.heap.size 22 1 v j (revTake l j)) (fun _ i _ => (intOf i + 1).toNat)
    case atStart => exact ⟨0, by omega, by simp, Below.refl _ _, by simp [revTake], .inl ⟨rfl, rfl⟩⟩
    case round =>
      obtain ⟨j, hj, rfl, hbel, hown⟩ := hrel
      by_cases hlt : j < l.length
      · skip
        have hcell := hsome.out wr hbel _ rfl (l.length - 1 - j) (by omega)
        go_wp2_with (at_builtin; go_loud (refine wpList_append_own _ rfl (.tmp 64) (.tmp 69) 29 rfl w.heap.size 22 i0 (.int .u64 0) 1 8 Try.underlying29 hi hz0 hz1 hz2 rfl (by decide) _ _ _ rfl (hown.alloc _) ⟨wr.heap.size, 0, none⟩ 1 1 [.int .u64 (l[l.length - 1 - j]?.getD 0)] rfl rfl ?c1 ?c2 ?c3 ?c4 ?c5 ?_))
        case c1 => exact fun j u h => one_new _ _ _ j u h
        case c2 => simp [Value.oneCell']
        case c3 => unfold maxLen; omega
        case c4 => omega
        case c5 => have := hbel.size; simp; omega
        intro v' w1 hown1 hg1 _
        have hb1 : Below w.heap.size w w1 := (hbel.alloc hbel.size _).grown hg1 (by have := hbel.size; simp; omega) (own_base hown)
        have hown2 : w1.ownsRow w.heap.size 22 1 v' (j + 1) (revTake l (j + 1)) := by rw [rev_snoc hlt]; exact hown1
        clear hown1 hg1 hcell hown hbel
        go_wp2_with fail
        go_roundw
        case rel => exact ⟨j + 1, by omega, vint (by omega), hb1, hown2⟩
        case measure => simp [intOf]; omega
      · obtain rfl : j = l.length := by omega
        obtain ⟨a', c', rfl⟩ := own_slice hown
        have hrow : Row64 wr a' l.reverse := by
          unfold revTake at hown; rw [List.take_of_length_le (by simp)] at hown
          exact row64_owned (w := wr) (base := w.heap.size) (n := l.length) (cap := c') hown
        clear hown
        go_wp2_with fail
        refine (sum_is _ _ _ l.reverse _ _ _ s5.out.1 s5.out.2 (by simp) (fun x hx => HU.out x (by simpa using hx)) (by simp; omega) hrow).mono ?_
        rintro e w' ⟨rfl, rfl⟩
        go_upto_region 14 with (fail)
        go_wp2_with (at_builtin; refine wpList_append_own _ rfl (.tmp 77) (.tmp 78) 29 rfl w.heap.size 22 i0 (.int .u64 0) 1 8 Try.underlying29 hi hz0 hz1 hz2 rfl (by decide) _ 0 [] rfl (own_empty _ _ hbel.size) _ l.length _ (l.map (Value.int .u64)) rfl (by simp) ?c1 ?c2 ?c3 ?c4 ?c5 ?_)
        case c1 => 
          intro j u hj
          have hj' : j < l.length := by
            rcases Nat.lt_or_ge j l.length with h1 | h1
            · exact h1
            · rw [List.getElem?_eq_none (by simpa using h1)] at hj; simp at hj
          rw [hsome.out _ (hbel.alloc hbel.size _) _ rfl j hj', ← hj]
          simp [hj', List.getD]
        case c2 => intro u hu; obtain ⟨y, _, rfl⟩ := List.mem_map.1 hu; rfl
        case c3 => unfold maxLen; omega
        case c4 => omega
        case c5 => have := hbel.size; simp; omega
        intro v2 W2 hown2 hg2 _
        have hb2 : Below w.heap.size w W2 := (hbel.alloc hbel.size _).grown hg2 (by have := hbel.size; simp; omega) (own_base (own_empty wr 22 hbel.size))
        clear hg2
        go_wp2_with (at_builtin; refine wpList_append_own _ rfl (.tmp 79) (.tmp 81) 29 rfl w.heap.size 22 i0 (.int .u64 0) 1 8 Try.underlying29 hi hz0 hz1 hz2 rfl (by decide) _ _ _ rfl (hown2.alloc _) ⟨W2.heap.size, 0, none⟩ 1 1 [.int .u64 x] rfl rfl ?d1 ?d2 ?d3 ?d4 ?d5 ?_)
        case d1 => exact fun j u h => one_new _ _ _ j u h
        case d2 => simp [Value.oneCell']
        case d3 => unfold maxLen; omega
        case d4 => omega
        case d5 => have := hb2.size; simp at this ⊢; omega
        intro v3 W3 hown3 hg3 _
        have hb3 : Below w.heap.size w W3 := (hb2.alloc hb2.size _).grown hg3 (by have := hb2.size; simp at this ⊢; omega) (own_base hown2)
        obtain ⟨a3, c3, rfl⟩ := own_slice hown3
        have hrow3 : Row64 W3 a3 (l ++ [x]) := row64_owned (w := W3) (base := w.heap.size) (T := 22) (n := l.length + 1) (cap := c3) (by rw [List.map_append]; exact hown3)
        clear hg3 hown3 hown2
        go_wp2_with fail
        refine (sum_is _ _ _ (l ++ [x]) _ _ _ s6.out.1 s6.out.2 (by simp) (fun y hy => by rcases List.mem_append.1 hy with h | h; exact HU.out y h; simp at h; exact h ▸ hx) (by simp; omega) hrow3).mono ?_
        rintro e w' ⟨rfl, rfl⟩
        go_upto_region 15 with (fail)
        rcases HC.out with ⟨rfl, rfl, rfl, rfl, hcS⟩ | ⟨rfl, rfl, rfl | ⟨rfl, rfl⟩ | ⟨rfl, rfl, rfl⟩⟩
        all_goals
          go_wp2_with fail
          refine (awake1 _).mono ?_
          rintro e w' ⟨rfl, hw⟩
          go_wp2_with fail
          go_ret
          exact ⟨rfl, hb3.trans (hw.mono hb3.size)⟩
  · skip
    go_enter Try.func4, Try.ntmps4
    go_wp2_with fail
    refine (sum_is _ _ _ l _ _ _ s1.out.1 s1.out.2 rfl HU.out hm HR.out).mono ?_
    rintro e w' ⟨rfl, rfl⟩
    go_wp2_with fail
    refine (sum_is _ _ _ (l.take k) _ _ _ s2.out.1 s2.out.2 (by simp; omega) (fun x hx => HU.out x (List.mem_of_mem_take hx)) (by simp; omega) (row64_take HR.out k)).mono ?_
    rintro e w' ⟨rfl, rfl⟩
    go_wp2_with fail
    refine (sum_is _ _ _ (l.drop k) _ _ _ s3.out.1 s3.out.2 (by simp) (fun x hx => HU.out x (List.mem_of_mem_drop hx)) (by simp; omega) (by first | exact row64_drop HR.out k | exact .inl (by simp; omega))).mono ?_
    rintro e w' ⟨rfl, rfl⟩
    go_wp2_with fail
    refine (add_is _ _ _ _ _ s4.out.1 s4.out.2.1 s4.out.2.2.1 s4.out.2.2.2).mono ?_
    rintro e w' ⟨rfl, rfl⟩
    go_wp2_with fail
    go_loopw [16, 17] (fun v i wr => ∃ j : Nat, j ≤ l.length ∧ i = .int .i64 ((l.length : Int) - 1 - j) ∧ Below w.heap.size w wr ∧ wr.ownsRow w.heap.size 22 1 v j (revTake l j)) (fun _ i _ => (intOf i + 1).toNat)
    case atStart => exact ⟨0, by omega, by simp, Below.refl _ _, by simp [revTake], .inl ⟨rfl, rfl⟩⟩
    case round =>
      obtain ⟨j, hj, rfl, hbel, hown⟩ := hrel
      by_cases hlt : j < l.length
      · skip
        have hcell := hsome.out wr hbel _ rfl (l.length - 1 - j) (by omega)
        go_wp2_with (at_builtin; go_loud (refine wpList_append_own _ rfl (.tmp 64) (.tmp 69) 29 rfl w.heap.size 22 i0 (.int .u64 0) 1 8 Try.underlying29 hi hz0 hz1 hz2 rfl (by decide) _ _ _ rfl (hown.alloc _) ⟨wr.heap.size, 0, none⟩ 1 1 [.int .u64 (l[l.length - 1 - j]?.getD 0)] rfl rfl ?c1 ?c2 ?c3 ?c4 ?c5 ?_))
        case c1 => exact fun j u h => one_new _ _ _ j u h
        case c2 => simp [Value.oneCell']
        case c3 => unfold maxLen; omega
        case c4 => omega
        case c5 => have := hbel.size; simp; omega
        intro v' w1 hown1 hg1 _
        have hb1 : Below w.heap.size w w1 := (hbel.alloc hbel.size _).grown hg1 (by have := hbel.size; simp; omega) (own_base hown)
        have hown2 : w1.ownsRow w.heap.size 22 1 v' (j + 1) (revTake l (j + 1)) := by rw [rev_snoc hlt]; exact hown1
        clear hown1 hg1 hcell hown hbel
        go_wp2_with fail
        go_roundw
        case rel => exact ⟨j + 1, by omega, vint (by omega), hb1, hown2⟩
        case measure => simp [intOf]; omega
      · obtain rfl : j = l.length := by omega
        obtain ⟨a', c', rfl⟩ := own_slice hown
        have hrow : Row64 wr a' l.reverse := by
          unfold revTake at hown; rw [List.take_of_length_le (by simp)] at hown
          exact row64_owned (w := wr) (base := w.heap.size) (n := l.length) (cap := c') hown
        clear hown
        go_wp2_with fail
        refine (sum_is _ _ _ l.reverse _ _ _ s5.out.1 s5.out.2 (by simp) (fun x hx => HU.out x (by simpa using hx)) (by simp; omega) hrow).mono ?_
        rintro e w' ⟨rfl, rfl⟩
        go_upto_region 14 with (fail)
        go_wp2_with (at_builtin; refine wpList_append_own _ rfl (.tmp 77) (.tmp 78) 29 rfl w.heap.size 22 i0 (.int .u64 0) 1 8 Try.underlying29 hi hz0 hz1 hz2 rfl (by decide) _ 0 [] rfl (own_empty _ _ hbel.size) _ l.length _ (l.map (Value.int .u64)) rfl (by simp) ?c1 ?c2 ?c3 ?c4 ?c5 ?_)
        case c1 => 
          intro j u hj
          have hj' : j < l.length := by
            rcases Nat.lt_or_ge j l.length with h1 | h1
            · exact h1
            · rw [List.getElem?_eq_none (by simpa using h1)] at hj; simp at hj
          rw [hsome.out _ (hbel.alloc hbel.size _) _ rfl j hj', ← hj]
          simp [hj', List.getD]
        case c2 => intro u hu; obtain ⟨y, _, rfl⟩ := List.mem_map.1 hu; rfl
        case c3 => unfold maxLen; omega
        case c4 => omega
        case c5 => have := hbel.size; simp; omega
        intro v2 W2 hown2 hg2 _
        have hb2 : Below w.heap.size w W2 := (hbel.alloc hbel.size _).grown hg2 (by have := hbel.size; simp; omega) (own_base (own_empty wr 22 hbel.size))
        clear hg2
        go_wp2_with (at_builtin; refine wpList_append_own _ rfl (.tmp 79) (.tmp 81) 29 rfl w.heap.size 22 i0 (.int .u64 0) 1 8 Try.underlying29 hi hz0 hz1 hz2 rfl (by decide) _ _ _ rfl (hown2.alloc _) ⟨W2.heap.size, 0, none⟩ 1 1 [.int .u64 x] rfl rfl ?d1 ?d2 ?d3 ?d4 ?d5 ?_)
        case d1 => exact fun j u h => one_new _ _ _ j u h
        case d2 => simp [Value.oneCell']
        case d3 => unfold maxLen; omega
        case d4 => omega
        case d5 => have := hb2.size; simp at this ⊢; omega
        intro v3 W3 hown3 hg3 _
        have hb3 : Below w.heap.size w W3 := (hb2.alloc hb2.size _).grown hg3 (by have := hb2.size; simp at this ⊢; omega) (own_base hown2)
        obtain ⟨a3, c3, rfl⟩ := own_slice hown3
        have hrow3 : Row64 W3 a3 (l ++ [x]) := row64_owned (w := W3) (base := w.heap.size) (T := 22) (n := l.length + 1) (cap := c3) (by rw [List.map_append]; exact hown3)
        clear hg3 hown3 hown2
        go_wp2_with fail
        refine (sum_is _ _ _ (l ++ [x]) _ _ _ s6.out.1 s6.out.2 (by simp) (fun y hy => by rcases List.mem_append.1 hy with h | h; exact HU.out y h; simp at h; exact h ▸ hx) (by simp; omega) hrow3).mono ?_
        rintro e w' ⟨rfl, rfl⟩
        go_upto_region 15 with (fail)
        rcases HC.out with ⟨rfl, rfl, rfl, rfl, hcS⟩ | ⟨rfl, rfl, rfl | ⟨rfl, rfl⟩ | ⟨rfl, rfl, rfl⟩⟩
        all_goals
          go_wp2_with fail
          refine (awake1 _).mono ?_
          rintro e w' ⟨rfl, hw⟩
          go_wp2_with fail
          go_ret
          exact ⟨rfl, hb3.trans (hw.mono hb3.size)⟩

theorem sums_walk (s : Option Addr) (n cap : Nat) (l : List Int) (at_ x : Int) (w : World) (hx : U x) (hn : n = l.length) (hU : ∀ x ∈ l, U x) (hlc : l.length ≤ cap) (hm : l.length ≤ 9223372036854775807) (hr : Row64 w s l) :
    Calls Try.prog 4 #[.slice s n cap, .int .i64 at_, .int .u64 x] w fun e w' => e = .returned (.bool true) ∧ Below w.heap.size w w' := by
  subst hn
  by_cases hl : 60 < l.length
  · go_enter Try.func4, Try.ntmps4
    go_wp2_with fail
    refine (awake1 _).mono ?_
    rintro e w' ⟨rfl, hw⟩
    go_wp2_with fail
    go_ret
    exact ⟨rfl, hw⟩
  · obtain ⟨k, hk, hat⟩ : ∃ k : Nat, k ≤ l.length ∧ (bits BinOp.and IntKind.i64 at_ 255).tmod ((l.length : Int) + 1) = k := by
      have h0 := and255_nonneg at_
      have h1 := Int.tmod_nonneg ((l.length : Int) + 1) h0
      have h2 := Int.tmod_lt_of_pos (bits BinOp.and IntKind.i64 at_ 255) (show (0 : Int) < (l.length : Int) + 1 by omega)
      exact ⟨((bits BinOp.and IntKind.i64 at_ 255).tmod ((l.length : Int) + 1)).toNat, by omega, by omega⟩
    have ht : ∀ y ∈ l.take k, U y := fun y hy => hU y (List.mem_of_mem_take hy)
    have hd : ∀ y ∈ l.drop k, U y := fun y hy => hU y (List.mem_of_mem_drop hy)
    have hr' : ∀ y ∈ l.reverse, U y := fun y hy => hU y (by simpa using hy)
    have hx' : ∀ y ∈ l ++ [x], U y := fun y hy => by
      rcases List.mem_append.1 hy with h | h
      · exact hU y h
      · simp at h; exact h ▸ hx
    obtain ⟨f1, f2⟩ := sum_facts l hU
    obtain ⟨f3, f4⟩ := sum_facts _ ht
    obtain ⟨f5, f6⟩ := sum_facts _ hd
    obtain ⟨f7, f8⟩ := sum_facts _ hr'
    obtain ⟨f9, f10⟩ := sum_facts _ hx'
    have e : isum l = isum (l.take k) + isum (l.drop k) := by rw [← isum_append, List.take_append_drop]
    have n1 := isum_nonneg _ fun y hy => (ht y hy).1
    have n2 := isum_nonneg _ fun y hy => (hd y hy).1
    have hx0 := hx.1
    rw [isum_reverse] at f7 f8
    rw [isum_append] at f9 f10
    have ex : isum [x] = x := by simp [isum]
    rw [ex] at f9 f10
    refine sums_core s cap l at_ x (cSumN l) (cSumN (l.take k)) (cSumN (l.drop k)) (cAddN (cSumN (l.take k)) (cSumN (l.drop k))) (cSumN (l ++ [x])) (cSumB l) (cSumB (l.take k)) (cSumB (l.drop k)) (cAddB (cSumN (l.take k)) (cSumN (l.drop k))) (cSumB (l ++ [x])) k w hx hU hlc hm hr hl hk hat ⟨rfl, rfl⟩ ⟨rfl, rfl⟩ ⟨rfl, rfl⟩
      ⟨sumFrom_U (by simp [U]) ht, sumFrom_U (by simp [U]) hd, rfl, rfl⟩ ⟨f7.trans f1.symm, f8.trans f2.symm⟩ ⟨rfl, rfl⟩ ?_
    rw [f1, f2, f3, f4, f5, f6, f10]
    generalize isum (l.take k) = p at *
    generalize isum (l.drop k) = q at *
    rw [e]
    unfold cAddB cAddN
    by_cases hT : p + q < 18446744073709551616
    · have h1 : p < 18446744073709551616 := by omega
      have h2 : q < 18446744073709551616 := by omega
      left
      simp [h1, h2, hT]
    · right
      refine ⟨by simpa using hT, by simp; omega, ?_⟩
      by_cases h1 : p < 18446744073709551616
      · by_cases h2 : q < 18446744073709551616
        · right; right; simp [h1, h2, hT]
        · right; left; simp [h1, h2]
      · left; simpa using h1
end Go.Proofs.Ytkjkkchpicehoaa
