
import Derived.Test.YteabcpmpcbjicaaEnve2
namespace Go.Proofs.Yteabcpmpcbjicaa
set_option linter.unusedVariables false
set_option maxRecDepth 100000
open Go Go.Proofs Go.RowKit Go.Maps
attribute [local go_sem ↓] Go.wp_at_zero Go.wp_at_succ

theorem nc_len (e : Env) : (nc e).length = 4 := rfl
def Env.zero : Env := ⟨0, 0, 0, 0⟩
/-- A row of envelopes. -/
abbrev Nrow (w : World) (s : Nat) (l : List Env) : Prop := Beg w s 32 (flat nc l)
theorem Nrow.at {w : World} {s : Nat} {l : List Env} (h : Nrow w s l) {k : Nat} (hk : k < l.length) : w.cell? ⟨s, k * 4, none⟩ = some (.int .i64 (l.getD k Env.zero).client) ∧ w.cell? ⟨s, k * 4 + 1, none⟩ = some (.int .u64 (l.getD k Env.zero).nonce) ∧ w.cell? ⟨s, k * 4 + 2, none⟩ = some (.int .u64 (l.getD k Env.zero).fee) ∧ w.cell? ⟨s, k * 4 + 3, none⟩ = some (.int .i64 (l.getD k Env.zero).cipher) := by
  have g : ∀ (j : Nat) (v : Value), j < 4 → (nc (l.getD k Env.zero))[j]? = some v → w.cell? ⟨s, k * 4 + j, none⟩ = some v := fun j v hj hv => Beg.at h (by rw [flat_get nc_len Env.zero l k j hj hk]; exact hv)
  exact ⟨g 0 _ (by omega) rfl, g 1 _ (by omega) rfl, g 2 _ (by omega) rfl, g 3 _ (by omega) rfl⟩
/-- Where the first one is that p holds of. -/
def idxE (p : Env → Bool) : List Env → Int
  | [] => -1
  | x :: l => if p x = true then 0 else (if idxE p l < 0 then -1 else idxE p l + 1)
theorem idxE_none {p : Env → Bool} : ∀ {l : List Env}, (∀ x ∈ l, p x = false) → idxE p l = -1
  | [], _ => rfl
  | x :: l, h => by
    unfold idxE
    rw [idxE_none (fun y hy => h y (by simp [hy])), h x (by simp)]
    simp
theorem idxE_some {p : Env → Bool} : ∀ {l : List Env} {j : Nat}, j < l.length → p (l.getD j Env.zero) = true → (∀ x ∈ l.take j, p x = false) → idxE p l = j
  | [], _, h, _, _ => by simp at h
  | x :: l, 0, _, h, _ => by
    unfold idxE
    simp only [List.getD_cons_zero] at h
    rw [if_pos h]; rfl
  | x :: l, j + 1, hj, h, hn => by
    unfold idxE
    have h1 : p x = false := hn x (by simp)
    rw [if_neg (by simp [h1]), idxE_some (l := l) (j := j) (by simpa using hj) (by simpa using h) (fun y hy => hn y (by simp [hy]))]
    rw [if_neg (by omega)]
    omega
set_option maxHeartbeats 1000000 in
theorem envIndex_taken {w : World} {s cap : Nat} {a : Option Addr} {l : List Env} {n : Nat} (hln : l.length = n) (c : Value) (p : Env → Bool) (hl : n ≤ 1000000000) (ha : l = [] ∨ (a = some ⟨s, 0, none⟩ ∧ Nrow w s l))
    (hf : ∀ wx, Chg [] w wx → ∀ x ∈ l, Calls Try.prog 108 #[nv x, c] wx fun e w' => e = .returned (.bool (p x)) ∧ Chg [] wx w') :
    Calls Try.prog 110 #[.slice a n cap, .func (.func 108) #[] #[c]] w fun e w' => e = .returned (.int .i64 (idxE p l)) ∧ Chg [] w w' := by
  have HLN := Lib.hid hln
  have HA := Lib.hid ha
  have HF := Lib.hid hf
  clear hln ha hf
  go_enter Try.func110, Try.ntmps110
  go_wp2_with fail
  go_loopw [8] (fun i wr => ∃ j : Nat, j ≤ n ∧ i = .int .i64 j ∧ Hid (Chg [] w wr) ∧ Hid (∀ x ∈ l.take j, p x = false)) (fun i _ => n - (intOf i).toNat)
  case atStart => exact ⟨0, by omega, rfl, Chg.refl _ _, by simp [Hid]⟩
  case round =>
    obtain ⟨j, hj, rfl, HC, HN⟩ := hrel
    by_cases hlt : j < n
    · have hjl : j < l.length := by rw [HLN.out]; exact hlt
      have i1 : (0 : Int) ≤ (j : Int) := by omega
      have i2 : (j : Int) < (n : Int) := by omega
      have i3 : (j : Int) < 1000000000 := by omega
      rcases HA.out with e0 | ⟨rfl, hr⟩
      · subst e0; simp at hjl
      · obtain ⟨c0, c1, c2, c3⟩ := Nrow.at (Beg.chg hr HC.out (by simp)) hjl
        have hmem : l.getD j Env.zero ∈ l := by simp [List.getD, hjl]
        have hcall := HF.out wr HC.out _ hmem
        have htk : l.take (j + 1) = l.take j ++ [l.getD j Env.zero] := by
          rw [List.take_succ_eq_append_getElem hjl]
          simp [List.getD, hjl]
        have HX : Hid (∀ b, p (l.getD j Env.zero) = b → b = true → idxE p l = j) := fun b hb h => idxE_some hjl (hb.trans h) HN.out
        have HTK := Lib.hid htk
        generalize l.getD j Env.zero = x at *
        clear hr hjl hmem htk
        have HCA := Lib.hid hcall
        clear hcall
        cases hb : p x
        · have HB := Lib.hid hb
          clear hb
          go_wp2_with fail
          refine HCA.out.mono ?_
          rw [HB.out]
          rintro e w2 ⟨rfl, cc⟩
          have HC2 := Lib.hid (HC.out.trans cc)
          clear cc c0 c1 c2 c3
          go_wp2_with fail
          go_roundw
          case rel => exact ⟨j + 1, by omega, by go_num, HC2, fun y hy => by
            rw [HTK.out] at hy
            rcases List.mem_append.1 hy with h | h
            · exact HN.out y h
            · simp at h; rw [h]; exact HB.out⟩
          case measure => simp [intOf]; omega
        · have HB := Lib.hid hb
          clear hb
          go_wp2_with fail
          refine HCA.out.mono ?_
          rw [HB.out]
          rintro e w2 ⟨rfl, cc⟩
          have HC2 := Lib.hid (HC.out.trans cc)
          clear cc c0 c1 c2 c3
          go_wp2_with fail
          go_ret
          exact ⟨by rw [HX.out _ HB.out rfl]; rfl, HC2.out⟩
    · have e9 : n = j := by omega
      subst e9
      go_wp2_with fail
      go_ret
      refine ⟨?_, HC.out⟩
      rw [idxE_none (fun x hx => HN.out x (by rw [List.take_of_length_le (by rw [HLN.out]; exact Nat.le_refl _)]; exact hx))]
      rfl
set_option maxHeartbeats 1000000 in
theorem envIndex_first {w : World} {s cap : Nat} {a : Option Addr} {l : List Env} {n : Nat} (hln : l.length = n) (c : Value) (p : Env → Bool) (hl : n ≤ 1000000000) (ha : l = [] ∨ (a = some ⟨s, 0, none⟩ ∧ Nrow w s l))
    (hf : ∀ wx, Chg [] w wx → ∀ x ∈ l, Calls Try.prog 112 #[nv x, c] wx fun e w' => e = .returned (.bool (p x)) ∧ Chg [] wx w') :
    Calls Try.prog 110 #[.slice a n cap, .func (.func 112) #[] #[c]] w fun e w' => e = .returned (.int .i64 (idxE p l)) ∧ Chg [] w w' := by
  have HLN := Lib.hid hln
  have HA := Lib.hid ha
  have HF := Lib.hid hf
  clear hln ha hf
  go_enter Try.func110, Try.ntmps110
  go_wp2_with fail
  go_loopw [8] (fun i wr => ∃ j : Nat, j ≤ n ∧ i = .int .i64 j ∧ Hid (Chg [] w wr) ∧ Hid (∀ x ∈ l.take j, p x = false)) (fun i _ => n - (intOf i).toNat)
  case atStart => exact ⟨0, by omega, rfl, Chg.refl _ _, by simp [Hid]⟩
  case round =>
    obtain ⟨j, hj, rfl, HC, HN⟩ := hrel
    by_cases hlt : j < n
    · have hjl : j < l.length := by rw [HLN.out]; exact hlt
      have i1 : (0 : Int) ≤ (j : Int) := by omega
      have i2 : (j : Int) < (n : Int) := by omega
      have i3 : (j : Int) < 1000000000 := by omega
      rcases HA.out with e0 | ⟨rfl, hr⟩
      · subst e0; simp at hjl
      · obtain ⟨c0, c1, c2, c3⟩ := Nrow.at (Beg.chg hr HC.out (by simp)) hjl
        have hmem : l.getD j Env.zero ∈ l := by simp [List.getD, hjl]
        have hcall := HF.out wr HC.out _ hmem
        have htk : l.take (j + 1) = l.take j ++ [l.getD j Env.zero] := by
          rw [List.take_succ_eq_append_getElem hjl]
          simp [List.getD, hjl]
        have HX : Hid (∀ b, p (l.getD j Env.zero) = b → b = true → idxE p l = j) := fun b hb h => idxE_some hjl (hb.trans h) HN.out
        have HTK := Lib.hid htk
        generalize l.getD j Env.zero = x at *
        clear hr hjl hmem htk
        have HCA := Lib.hid hcall
        clear hcall
        cases hb : p x
        · have HB := Lib.hid hb
          clear hb
          go_wp2_with fail
          refine HCA.out.mono ?_
          rw [HB.out]
          rintro e w2 ⟨rfl, cc⟩
          have HC2 := Lib.hid (HC.out.trans cc)
          clear cc c0 c1 c2 c3
          go_wp2_with fail
          go_roundw
          case rel => exact ⟨j + 1, by omega, by go_num, HC2, fun y hy => by
            rw [HTK.out] at hy
            rcases List.mem_append.1 hy with h | h
            · exact HN.out y h
            · simp at h; rw [h]; exact HB.out⟩
          case measure => simp [intOf]; omega
        · have HB := Lib.hid hb
          clear hb
          go_wp2_with fail
          refine HCA.out.mono ?_
          rw [HB.out]
          rintro e w2 ⟨rfl, cc⟩
          have HC2 := Lib.hid (HC.out.trans cc)
          clear cc c0 c1 c2 c3
          go_wp2_with fail
          go_ret
          exact ⟨by rw [HX.out _ HB.out rfl]; rfl, HC2.out⟩
    · have e9 : n = j := by omega
      subst e9
      go_wp2_with fail
      go_ret
      refine ⟨?_, HC.out⟩
      rw [idxE_none (fun x hx => HN.out x (by rw [List.take_of_length_le (by rw [HLN.out]; exact Nat.le_refl _)]; exact hx))]
      rfl
set_option maxHeartbeats 1000000 in
theorem envIndex_lower {w : World} {s cap : Nat} {a : Option Addr} {l : List Env} {n : Nat} (hln : l.length = n) (c : Value) (p : Env → Bool) (hl : n ≤ 1000000000) (ha : l = [] ∨ (a = some ⟨s, 0, none⟩ ∧ Nrow w s l))
    (hf : ∀ wx, Chg [] w wx → ∀ x ∈ l, Calls Try.prog 113 #[nv x, c] wx fun e w' => e = .returned (.bool (p x)) ∧ Chg [] wx w') :
    Calls Try.prog 110 #[.slice a n cap, .func (.func 113) #[] #[c]] w fun e w' => e = .returned (.int .i64 (idxE p l)) ∧ Chg [] w w' := by
  have HLN := Lib.hid hln
  have HA := Lib.hid ha
  have HF := Lib.hid hf
  clear hln ha hf
  go_enter Try.func110, Try.ntmps110
  go_wp2_with fail
  go_loopw [8] (fun i wr => ∃ j : Nat, j ≤ n ∧ i = .int .i64 j ∧ Hid (Chg [] w wr) ∧ Hid (∀ x ∈ l.take j, p x = false)) (fun i _ => n - (intOf i).toNat)
  case atStart => exact ⟨0, by omega, rfl, Chg.refl _ _, by simp [Hid]⟩
  case round =>
    obtain ⟨j, hj, rfl, HC, HN⟩ := hrel
    by_cases hlt : j < n
    · have hjl : j < l.length := by rw [HLN.out]; exact hlt
      have i1 : (0 : Int) ≤ (j : Int) := by omega
      have i2 : (j : Int) < (n : Int) := by omega
      have i3 : (j : Int) < 1000000000 := by omega
      rcases HA.out with e0 | ⟨rfl, hr⟩
      · subst e0; simp at hjl
      · obtain ⟨c0, c1, c2, c3⟩ := Nrow.at (Beg.chg hr HC.out (by simp)) hjl
        have hmem : l.getD j Env.zero ∈ l := by simp [List.getD, hjl]
        have hcall := HF.out wr HC.out _ hmem
        have htk : l.take (j + 1) = l.take j ++ [l.getD j Env.zero] := by
          rw [List.take_succ_eq_append_getElem hjl]
          simp [List.getD, hjl]
        have HX : Hid (∀ b, p (l.getD j Env.zero) = b → b = true → idxE p l = j) := fun b hb h => idxE_some hjl (hb.trans h) HN.out
        have HTK := Lib.hid htk
        generalize l.getD j Env.zero = x at *
        clear hr hjl hmem htk
        have HCA := Lib.hid hcall
        clear hcall
        cases hb : p x
        · have HB := Lib.hid hb
          clear hb
          go_wp2_with fail
          refine HCA.out.mono ?_
          rw [HB.out]
          rintro e w2 ⟨rfl, cc⟩
          have HC2 := Lib.hid (HC.out.trans cc)
          clear cc c0 c1 c2 c3
          go_wp2_with fail
          go_roundw
          case rel => exact ⟨j + 1, by omega, by go_num, HC2, fun y hy => by
            rw [HTK.out] at hy
            rcases List.mem_append.1 hy with h | h
            · exact HN.out y h
            · simp at h; rw [h]; exact HB.out⟩
          case measure => simp [intOf]; omega
        · have HB := Lib.hid hb
          clear hb
          go_wp2_with fail
          refine HCA.out.mono ?_
          rw [HB.out]
          rintro e w2 ⟨rfl, cc⟩
          have HC2 := Lib.hid (HC.out.trans cc)
          clear cc c0 c1 c2 c3
          go_wp2_with fail
          go_ret
          exact ⟨by rw [HX.out _ HB.out rfl]; rfl, HC2.out⟩
    · have e9 : n = j := by omega
      subst e9
      go_wp2_with fail
      go_ret
      refine ⟨?_, HC.out⟩
      rw [idxE_none (fun x hx => HN.out x (by rw [List.take_of_length_le (by rw [HLN.out]; exact Nat.le_refl _)]; exact hx))]
      rfl
/-- ContainsFunc by IndexFunc. -/
theorem idxE_any {p : Env → Bool} : ∀ (l : List Env), decide (0 ≤ idxE p l) = l.any p
  | [] => rfl
  | x :: l => by
    have ih := idxE_any (p := p) l
    unfold idxE
    cases hx : p x
    · simp only [List.any_cons, hx, Bool.false_or]
      rw [← ih]
      by_cases h : idxE p l < 0
      · simp [h] <;> omega
      · simp [h] <;> omega
    · simp [hx]
set_option maxHeartbeats 1000000 in
theorem envContains_taken {w : World} {s cap : Nat} {a : Option Addr} {l : List Env} {n : Nat} (hln : l.length = n) (c : Value) (p : Env → Bool) (hl : n ≤ 1000000000) (ha : l = [] ∨ (a = some ⟨s, 0, none⟩ ∧ Nrow w s l))
    (hf : ∀ wx, Chg [] w wx → ∀ x ∈ l, Calls Try.prog 108 #[nv x, c] wx fun e w' => e = .returned (.bool (p x)) ∧ Chg [] wx w') (b : Bool) (hb : l.any p = b) :
    Calls Try.prog 107 #[.slice a n cap, .func (.func 108) #[] #[c]] w fun e w' => e = .returned (.bool b) ∧ Chg [] w w' := by
  have HH := Lib.hid (envIndex_taken hln c p hl ha hf (cap := cap))
  obtain ⟨r, hr⟩ : ∃ r, idxE p l = r := ⟨_, rfl⟩
  rw [hr] at HH
  have hd : decide (0 ≤ r) = b := by rw [← hr, ← hb]; exact idxE_any l
  have hd' : decide (r ≥ 0) = b := hd
  clear hr hf ha hb
  go_enter Try.func107, Try.ntmps107
  go_wp2_with fail
  refine HH.out.mono ?_
  rintro e w2 ⟨rfl, cc⟩
  go_wp2_with fail
  go_ret
  exact ⟨by rfl, cc⟩
set_option maxHeartbeats 1000000 in
theorem envContains_lower {w : World} {s cap : Nat} {a : Option Addr} {l : List Env} {n : Nat} (hln : l.length = n) (c : Value) (p : Env → Bool) (hl : n ≤ 1000000000) (ha : l = [] ∨ (a = some ⟨s, 0, none⟩ ∧ Nrow w s l))
    (hf : ∀ wx, Chg [] w wx → ∀ x ∈ l, Calls Try.prog 113 #[nv x, c] wx fun e w' => e = .returned (.bool (p x)) ∧ Chg [] wx w') (b : Bool) (hb : l.any p = b) :
    Calls Try.prog 107 #[.slice a n cap, .func (.func 113) #[] #[c]] w fun e w' => e = .returned (.bool b) ∧ Chg [] w w' := by
  have HH := Lib.hid (envIndex_lower hln c p hl ha hf (cap := cap))
  obtain ⟨r, hr⟩ : ∃ r, idxE p l = r := ⟨_, rfl⟩
  rw [hr] at HH
  have hd : decide (0 ≤ r) = b := by rw [← hr, ← hb]; exact idxE_any l
  have hd' : decide (r ≥ 0) = b := hd
  clear hr hf ha hb
  go_enter Try.func107, Try.ntmps107
  go_wp2_with fail
  refine HH.out.mono ?_
  rintro e w2 ⟨rfl, cc⟩
  go_wp2_with fail
  go_ret
  exact ⟨by rfl, cc⟩
/-- Is an envelope, or one of its client and nonce, there? -/
def tkn (e x : Env) : Bool := decide (x = e) || (decide (x.client = e.client) && decide (x.nonce = e.nonce))
set_option maxHeartbeats 1000000 in
theorem takenLit {w : World} {g : Nat} {e : Env} (hg : Blk w g 32 (nc e)) (x : Env) :
    Calls Try.prog 108 #[nv x, .pointer (some ⟨g, 0, none⟩)] w fun y w' => y = .returned (.bool (tkn e x)) ∧ Chg [] w w' := by
  have y0 := hg.at (i := 0) rfl
  have y1 := hg.at (i := 1) rfl
  have y2 := hg.at (i := 2) rfl
  have y3 := hg.at (i := 3) rfl
  have hlt := hg.lt
  go_enter Try.func108, Try.ntmps108
  go_wp2_with fail
  all_goals
    go_ret
    refine ⟨ret_bool ?_, (Chg.refl [] w).alloc _⟩
    cases x
    cases e
    simp_all [tkn]
def lowr (e x : Env) : Bool := decide (x.client = e.client) && decide (x.nonce < e.nonce)
set_option maxHeartbeats 1000000 in
theorem lowerLit {w : World} {g : Nat} {e : Env} (hg : Blk w g 32 (nc e)) (x : Env) :
    Calls Try.prog 113 #[nv x, .pointer (some ⟨g, 0, none⟩)] w fun y w' => y = .returned (.bool (lowr e x)) ∧ Chg [] w w' := by
  have y0 := hg.at (i := 0) rfl
  have y1 := hg.at (i := 1) rfl
  have hlt := hg.lt
  by_cases h1 : x.client = e.client
  · have d1 : (x.client == e.client) = true := by simp [h1]
    have d1' : decide (x.client = e.client) = true := by simp [h1]
    have hl : Hid (lowr e x = decide (x.nonce < e.nonce)) := by show _ = _; simp [lowr, h1]
    clear h1
    go_enter Try.func113, Try.ntmps113
    go_wp2_with fail
    go_ret
    exact ⟨by rw [hl.out]; rfl, (Chg.refl [] w).alloc _⟩
  · have d1 : (x.client == e.client) = false := by simp [h1]
    have d1' : decide (x.client = e.client) = false := by simp [h1]
    have hl : Hid (lowr e x = false) := by show _ = _; simp [lowr, h1]
    clear h1
    go_enter Try.func113, Try.ntmps113
    go_wp2_with fail
    go_ret
    exact ⟨by rw [hl.out]; rfl, (Chg.refl [] w).alloc _⟩
end Go.Proofs.Yteabcpmpcbjicaa
