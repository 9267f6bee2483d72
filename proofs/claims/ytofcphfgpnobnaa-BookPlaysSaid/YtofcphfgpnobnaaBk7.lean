import Derived.Test.YtofcphfgpnobnaaBk5
import Derived.Test.YtofcphfgpnobnaaMapU
namespace Go.Proofs.Ytofcphfgpnobnaa
set_option linter.unusedVariables false
open Go Go.Proofs Go.RowKit

/-! What comes of a match: plain. -/
theorem mch_trades {o : Ord} {Q : List Ord} (hQ : ∀ x ∈ Q, 0 < x.qty) : ∀ q, ∀ t ∈ (mch o q Q).1, ∃ x ∈ Q, ∃ m, 0 < m ∧ m ≤ x.qty ∧ t = trd o x m ∧ meet o x = true := by
  induction Q with
  | nil => intro q t ht; simp [mch] at ht
  | cons x Q ih =>
    intro q t ht
    have hx := hQ x (by simp)
    by_cases h : 0 < q ∧ meet o x = true
    · by_cases k : q < x.qty
      · rw [mch_part h.1 h.2 k] at ht
        simp at ht
        exact ⟨x, by simp, q, h.1, by omega, ht, h.2⟩
      · rw [mch_all h.1 h.2 (by omega)] at ht
        rcases List.mem_cons.1 ht with e | e
        · exact ⟨x, by simp, x.qty, hx, Int.le_refl _, e, h.2⟩
        · obtain ⟨y, hy, m, r⟩ := ih (fun y hy => hQ y (by simp [hy])) _ t e
          exact ⟨y, by simp [hy], m, r⟩
    · rw [mch_no h] at ht; simp at ht
theorem mch_sum (o : Ord) (Q : List Ord) : ∀ q, isum ((mch o q Q).1.map Trd.qty) + (mch o q Q).2.1 = q := by
  induction Q with
  | nil => intro q; simp [mch, isum]
  | cons x Q ih =>
    intro q
    by_cases h : 0 < q ∧ meet o x = true
    · by_cases k : q < x.qty
      · rw [mch_part h.1 h.2 k]
        cases hb : o.buy <;> simp [isum, trd, hb]
      · rw [mch_all h.1 h.2 (by omega)]
        have := ih (q - x.qty)
        cases hb : o.buy <;> simp [isum, trd, hb] at this ⊢ <;> omega
    · rw [mch_no h]; simp [isum]
theorem mch_stand {o : Ord} {Q : List Ord} : ∀ q, ∀ y ∈ (mch o q Q).2.2, ∃ x ∈ Q, y.id = x.id ∧ y.price = x.price ∧ y.client = x.client ∧ y.buy = x.buy ∧ y.qty ≤ x.qty ∧ (0 < x.qty → 0 < y.qty) := by
  induction Q with
  | nil => intro q y hy; simp [mch] at hy
  | cons x Q ih =>
    intro q y hy
    by_cases h : 0 < q ∧ meet o x = true
    · by_cases k : q < x.qty
      · rw [mch_part h.1 h.2 k] at hy
        rcases List.mem_cons.1 hy with e | e
        · subst e
          exact ⟨x, by simp, rfl, rfl, rfl, rfl, by show x.qty - q ≤ x.qty; omega, fun _ => by show 0 < x.qty - q; omega⟩
        · exact ⟨y, by simp [e], rfl, rfl, rfl, rfl, Int.le_refl _, id⟩
      · rw [mch_all h.1 h.2 (by omega)] at hy
        obtain ⟨z, hz, r⟩ := ih _ y hy
        exact ⟨z, by simp [hz], r⟩
    · rw [mch_no h] at hy
      exact ⟨y, hy, rfl, rfl, rfl, rfl, Int.le_refl _, id⟩
theorem srt_price {up : Bool} {x : Ord} {Q : List Ord} (h : Srt up (x :: Q)) : ∀ y ∈ Q, (up = true → x.price ≤ y.price) ∧ (up = false → y.price ≤ x.price) := fun y hy => by
  have := (List.pairwise_cons.1 h).1 y hy
  cases up
  · rw [ahead_f] at this
    simp at this
    exact ⟨by simp, fun _ => by omega⟩
  · rw [ahead_t] at this
    simp at this
    exact ⟨fun _ => by omega, by simp⟩
/-- What is left of an order meets nobody. -/
theorem mch_none {o : Ord} {Q : List Ord} (hs : Srt o.buy Q) : ∀ q, 0 < (mch o q Q).2.1 → ∀ y ∈ (mch o q Q).2.2, meet o y = false := by
  induction Q with
  | nil => intro q _ y hy; simp [mch] at hy
  | cons x Q ih =>
    intro q hl y hy
    by_cases h : 0 < q ∧ meet o x = true
    · by_cases k : q < x.qty
      · rw [mch_part h.1 h.2 k] at hl
        simp at hl
      · rw [mch_all h.1 h.2 (by omega)] at hl hy
        exact ih (List.pairwise_cons.1 hs).2 _ hl y hy
    · rw [mch_no h] at hl hy
      have hl' : 0 < q := hl
      have hm : meet o x = false := by
        cases e : meet o x
        · rfl
        · exact absurd ⟨hl', e⟩ h
      have hp := srt_price hs
      rcases List.mem_cons.1 hy with e | e
      · rw [e]; exact hm
      · have h2 := hp y e
        unfold meet at hm ⊢
        cases hb : o.buy
        · rw [hb] at hm h2
          simp at hm h2 ⊢
          omega
        · rw [hb] at hm h2
          simp at hm h2 ⊢
          omega

/-- A book that is not crossed; the prices of all that came: f. -/
structure Unx (n : Nat) (f : Int → Int) (L M : List Ord) : Prop where
  fr : Fresh n L M
  all : ∀ x ∈ L ++ M, 0 < x.qty ∧ x.qty ≤ 15 ∧ f x.id = x.price
  un : ∀ b ∈ L, ∀ a ∈ M, b.price < a.price
  len : L.length + M.length ≤ n
theorem Unx.start (f : Int → Int) : Unx 0 f [] [] := ⟨Fresh.start, by simp, by simp, by simp⟩
/-- What is told of a trade. -/
structure TrdOk (n : Nat) (f : Int → Int) (o : Ord) (t : Trd) : Prop where
  qty : 0 < t.qty ∧ t.qty ≤ 15
  taker : t.taker = o.id
  maker : 1 ≤ t.maker ∧ t.maker ≤ (n : Int)
  price : f t.maker = t.price
  buy : o.buy = true → t.price ≤ o.price ∧ t.buyer = o.client
  sell : o.buy = false → o.price ≤ t.price ∧ t.seller = o.client
theorem Unx.trades {n : Nat} {f : Int → Int} {L M : List Ord} (h : Unx n f L M) (o : Ord) : ∀ t ∈ (mres o L M).1, TrdOk n f o t := fun t ht => by
  have hQ : ∀ x ∈ (if o.buy = true then M else L), x ∈ L ++ M := fun x hx => by
    split at hx <;> simp [hx]
  obtain ⟨x, hx, m, h1, h2, rfl, h4⟩ := mch_trades (fun x hx => (h.all x (hQ x hx)).1) o.qty t ht
  obtain ⟨a1, a2, a3⟩ := h.all x (hQ x hx)
  have hle := h.fr.le x (hQ x hx)
  unfold meet at h4
  unfold trd
  cases hb : o.buy
  · rw [hb] at h4
    simp at h4
    exact ⟨⟨h1, by show m ≤ 15; omega⟩, rfl, hle, a3, (fun e => by rw [hb] at e; cases e), fun _ => ⟨h4, rfl⟩⟩
  · rw [hb] at h4
    simp at h4
    exact ⟨⟨h1, by show m ≤ 15; omega⟩, rfl, hle, a3, fun _ => ⟨h4, rfl⟩, fun e => by rw [hb] at e; cases e⟩
theorem Unx.step {n : Nat} {f : Int → Int} {L M : List Ord} (h : Unx n f L M) (sL : Srt false L) (sM : Srt true M) {o : Ord} (ho : o.id = (n : Int) + 1) (hq : 0 ≤ o.qty ∧ o.qty ≤ 15) :
    Unx (n + 1) (upd f o.id o.price) (restL { o with qty := (mres o L M).2.1 } (mL o L M)) (restM { o with qty := (mres o L M).2.1 } (mM o L M)) := by
  have hlq := mch_left o (if o.buy = true then M else L) (fun x hx => by
    have : x ∈ L ++ M := by split at hx <;> simp [hx]
    have := (h.all x this).1; omega) o.qty hq.1
  have hall : ∀ x ∈ mL o L M ++ mM o L M, 0 < x.qty ∧ x.qty ≤ 15 ∧ f x.id = x.price := fun x hx => by
    have hst : ∃ y ∈ L ++ M, x.id = y.id ∧ x.price = y.price ∧ x.qty ≤ y.qty ∧ (0 < y.qty → 0 < x.qty) := by
      unfold mL mM mres at hx
      rcases List.mem_append.1 hx with g | g
      · split at g
        · exact ⟨x, by simp [g], rfl, rfl, Int.le_refl _, id⟩
        · obtain ⟨y, hy, e1, e2, _, _, e5, e6⟩ := mch_stand _ x g
          exact ⟨y, by simp [hy], e1, e2, e5, e6⟩
      · split at g
        · obtain ⟨y, hy, e1, e2, _, _, e5, e6⟩ := mch_stand _ x g
          exact ⟨y, by simp [hy], e1, e2, e5, e6⟩
        · exact ⟨x, by simp [g], rfl, rfl, Int.le_refl _, id⟩
    obtain ⟨y, hy, e1, e2, e3, e4⟩ := hst
    obtain ⟨a1, a2, a3⟩ := h.all y hy
    exact ⟨e4 a1, by omega, by rw [e1, e2]; exact a3⟩
  have hfr := h.fr.mch o
  have hlenm := mch_len o (if o.buy = true then M else L) o.qty
  have hlen2 : (mL o L M).length + (mM o L M).length ≤ n := by
    have := h.len
    unfold mL mM mres
    cases hb : o.buy <;> rw [hb] at hlenm <;> simp at hlenm ⊢ <;> omega
  refine ⟨hfr.rest ho, fun x hx => ?_, fun b hb a ha => ?_, ?_⟩
  · have hm := (rest_perm { o with qty := (mres o L M).2.1 } (mL o L M) (mM o L M)).mem_iff.1 hx
    have old : ∀ x ∈ mL o L M ++ mM o L M, 0 < x.qty ∧ x.qty ≤ 15 ∧ upd f o.id o.price x.id = x.price := fun x hx => by
      obtain ⟨a1, a2, a3⟩ := hall x hx
      have hne : x.id ≠ o.id := fun e => by have := hfr.le x hx; omega
      exact ⟨a1, a2, by show ite _ _ _ = _; rw [if_neg hne]; exact a3⟩
    split at hm
    · rename_i hne
      rcases List.mem_cons.1 hm with e | e
      · subst e
        have h1 : (mres o L M).2.1 ≠ 0 := hne
        refine ⟨?_, ?_, upd_same _ _ _⟩
        · show 0 < (mres o L M).2.1
          have := hlq.1
          unfold mres at h1 ⊢
          omega
        · show (mres o L M).2.1 ≤ 15
          have := hlq.2
          unfold mres
          omega
      · exact old x e
    · exact old x hm
  · have inL : ∀ b ∈ mL o L M, ∃ y ∈ L, b.price = y.price := fun b hb => by
      unfold mL mres at hb
      split at hb
      · exact ⟨b, hb, rfl⟩
      · obtain ⟨y, hy, _, e, _⟩ := mch_stand _ b hb
        exact ⟨y, hy, e⟩
    have inM : ∀ b ∈ mM o L M, ∃ y ∈ M, b.price = y.price := fun b hb => by
      unfold mM mres at hb
      split at hb
      · obtain ⟨y, hy, _, e, _⟩ := mch_stand _ b hb
        exact ⟨y, hy, e⟩
      · exact ⟨b, hb, rfl⟩
    have un2 : ∀ b ∈ mL o L M, ∀ a ∈ mM o L M, b.price < a.price := fun b hb a ha => by
      obtain ⟨y, hy, e1⟩ := inL b hb
      obtain ⟨z, hz, e2⟩ := inM a ha
      have := h.un y hy z hz
      omega
    unfold restL at hb
    unfold restM at ha
    dsimp only at hb ha
    split at hb
    · rename_i hc
      rw [if_neg (by rw [hc.2]; simp)] at ha
      rcases List.mem_cons.1 ((ins_perm false _ _).mem_iff.1 hb) with e | e
      · subst e
        have hM : mM o L M = (mch o o.qty M).2.2 := by unfold mM mres; rw [if_pos hc.2, if_pos hc.2]
        have hpos : 0 < (mch o o.qty M).2.1 := by
          have h1 := hc.1
          have h2 := hlq.1
          unfold mres at h1
          rw [if_pos hc.2] at h1 h2
          omega
        rw [hM] at ha
        have := mch_none (o := o) (Q := M) (by rw [hc.2]; exact sM) o.qty hpos a ha
        unfold meet at this
        rw [if_pos hc.2] at this
        simp at this
        exact this
      · exact un2 b e a ha
    · split at ha
      · rename_i hc
        rcases List.mem_cons.1 ((ins_perm true _ _).mem_iff.1 ha) with e | e
        · subst e
          have hL : mL o L M = (mch o o.qty L).2.2 := by unfold mL mres; rw [hc.2]; simp
          have hpos : 0 < (mch o o.qty L).2.1 := by
            have h1 := hc.1
            have h2 := hlq.1
            unfold mres at h1
            rw [hc.2] at h1 h2
            simp at h1 h2
            omega
          rw [hL] at hb
          have := mch_none (o := o) (Q := L) (by rw [hc.2]; exact sL) o.qty hpos b hb
          unfold meet at this
          rw [hc.2] at this
          simp at this
          exact this
        · exact un2 b hb a e
      · exact un2 b hb a ha
  · have := rest_len { o with qty := (mres o L M).2.1 } (mL o L M) (mM o L M)
    rw [this]
    split <;> omega
end Go.Proofs.Ytofcphfgpnobnaa
