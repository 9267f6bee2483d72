
import Derived.Test.YteabcpmpcbjicaaPool5
namespace Go.Proofs.Yteabcpmpcbjicaa
set_option linter.unusedVariables false
set_option maxRecDepth 100000
open Go Go.Proofs Go.RowKit Go.Maps
attribute [local go_sem ↓] Go.wp_at_zero Go.wp_at_succ

/-- A row of numbers as a slice. -/
def Isl (w : World) (a : Option Addr) (zs : List Int) : Prop := zs = [] ∨ ∃ g, a = some ⟨g, 0, none⟩ ∧ Beg w g 3 (zs.map (Value.int .i64))
theorem Isl.chg {w w' : World} {a : Option Addr} {zs : List Int} {S : List Nat} (h : Isl w a zs) (c : Chg S w w') (hs : ∀ z ∈ S, ∀ o, a = some o → o.block ≠ z) : Isl w' a zs :=
  h.imp id fun ⟨g, e, k⟩ => ⟨g, e, k.chg c (fun hm => hs g hm _ e rfl)⟩
def idxI (d : Int) : List Int → Int
  | [] => -1
  | x :: l => if d = x then 0 else (if idxI d l < 0 then -1 else idxI d l + 1)
theorem idxI_none {d : Int} : ∀ {l : List Int}, d ∉ l → idxI d l = -1
  | [], _ => rfl
  | x :: l, h => by
    unfold idxI
    rw [idxI_none (fun q => h (by simp [q])), if_neg (fun q => h (by simp [q]))]
    simp
theorem idxI_some {d : Int} : ∀ {l : List Int} {j : Nat}, j < l.length → d = l.getD j 0 → (d ∉ l.take j) → idxI d l = j
  | [], _, h, _, _ => by simp at h
  | x :: l, 0, _, h, _ => by
    unfold idxI
    simp only [List.getD_cons_zero] at h
    rw [if_pos h]; rfl
  | x :: l, j + 1, hj, h, hn => by
    unfold idxI
    have h1 : d ≠ x := fun q => hn (by simp [q])
    rw [if_neg h1, idxI_some (l := l) (j := j) (by simpa using hj) (by simpa using h) (fun q => hn (by simp [q]))]
    rw [if_neg (by omega)]
    omega
theorem idxI_any {d : Int} : ∀ (l : List Int), decide (0 ≤ idxI d l) = decide (d ∈ l)
  | [] => rfl
  | x :: l => by
    have ih := idxI_any (d := d) l
    unfold idxI
    by_cases hx : d = x
    · simp [hx]
    · rw [if_neg hx]
      simp only [List.mem_cons, hx, false_or]
      rw [← ih]
      by_cases h : idxI d l < 0
      · simp [h] <;> omega
      · simp [h] <;> omega
set_option maxHeartbeats 1000000 in
theorem intIndex {w : World} {a : Option Addr} {zs : List Int} {n cap : Nat} (hn : zs.length = n) (hb : n ≤ 1000000000) (h : Isl w a zs) (d : Int) :
    Calls Try.prog 111 #[.slice a n cap, .int .i64 d] w fun y w' => y = .returned (.int .i64 (idxI d zs)) ∧ w = w' := by
  have HN := Lib.hid hn
  have HI := Lib.hid h
  clear hn h
  go_enter Try.func111, Try.ntmps111
  go_wp2_with fail
  go_loopw [8] (fun i wr => ∃ j : Nat, j ≤ n ∧ i = .int .i64 j ∧ wr = w ∧ Hid (d ∉ zs.take j)) (fun i _ => n - (intOf i).toNat)
  case atStart => exact ⟨0, by omega, rfl, rfl, by simp [Hid]⟩
  case round =>
    obtain ⟨j, hj, rfl, rfl, HNO⟩ := hrel
    by_cases hlt : j < n
    · have hjl : j < zs.length := by rw [HN.out]; exact hlt
      have i1 : (0 : Int) ≤ (j : Int) := by omega
      have i2 : (j : Int) < (n : Int) := by omega
      have i3 : (j : Int) < 1000000000 := by omega
      rcases HI.out with e0 | ⟨g, rfl, hr⟩
      · subst e0; simp at hjl
      · have c0 := hr.at (i := j) (v := .int .i64 (zs.getD j 0)) (by simp [List.getD, hjl])
        have htk : zs.take (j + 1) = zs.take j ++ [zs.getD j 0] := by
          rw [List.take_succ_eq_append_getElem hjl]
          simp [List.getD, hjl]
        have HX : Hid (d = zs.getD j 0 → idxI d zs = j) := fun h => idxI_some hjl h HNO.out
        have HTK := Lib.hid htk
        generalize zs.getD j 0 = x at *
        clear hr hjl htk
        by_cases hd : d = x
        · have dq : (d == x) = true := by simp [hd]
          have HDX := Lib.hid hd
          clear hd
          go_wp2_with fail
          go_ret
          exact ⟨by rw [HX.out HDX.out]; rfl, rfl⟩
        · have dq : (d == x) = false := by simp [hd]
          have HDX := Lib.hid hd
          clear hd HX
          go_wp2_with fail
          go_roundw
          case rel => exact ⟨j + 1, by omega, by go_num, (by trivial), fun hy => by
            rw [HTK.out] at hy
            rcases List.mem_append.1 hy with h | h
            · exact HNO.out h
            · simp at h; exact HDX.out h⟩
          case measure => simp [intOf]; omega
    · have e9 : n = j := by omega
      subst e9
      go_wp2_with fail
      go_ret
      refine ⟨?_, rfl⟩
      rw [idxI_none (fun hx => HNO.out (by rw [List.take_of_length_le (by rw [HN.out]; exact Nat.le_refl _)]; exact hx))]
      rfl
theorem intContains {w : World} {a : Option Addr} {zs : List Int} {n cap : Nat} (hn : zs.length = n) (hb : n ≤ 1000000000) (h : Isl w a zs) (d : Int) (b : Bool) (hbb : decide (d ∈ zs) = b) :
    Calls Try.prog 74 #[.slice a n cap, .int .i64 d] w fun y w' => y = .returned (.bool b) ∧ w = w' := by
  obtain ⟨r, hr⟩ : ∃ r, idxI d zs = r := ⟨_, rfl⟩
  have HH := Lib.hid (intIndex (cap := cap) hn hb h d)
  rw [hr] at HH
  have hd : decide (0 ≤ r) = b := by rw [← hr, ← hbb]; exact idxI_any zs
  have hd' : decide (r ≥ 0) = b := hd
  clear hr hbb hn h
  go_enter Try.func74, Try.ntmps74
  go_wp2_with fail
  refine HH.out.mono ?_
  rintro y w2 ⟨rfl, rfl⟩
  go_wp2_with fail
  go_ret
  exact ⟨by rfl, rfl⟩
set_option maxHeartbeats 2000000 in
theorem batchLit {w wr : World} {g l p nl b1 b2 n cap : Nat} {FE FL FP : List Nat} {W : WS} {S : LS} {most : Int} {L : List Env} {t tl : Nat} {a : Option Addr} {zs : List Int} (h : WldX w wr g FE W t) (ht : t ≤ 900000) (hp : wr.cell? ⟨p, 0, none⟩ = some (.pointer (some ⟨g, 0, none⟩)))
    (h1 : wr.cell? ⟨b1, 0, none⟩ = some (.slice a n cap)) (h2 : wr.cell? ⟨b2, 0, none⟩ = some (.pointer (some ⟨p, 0, none⟩))) (hn : zs.length = n) (hb : n ≤ 1000000000) (hI : Isl wr a zs) (e : Env) (he : e.Ok) (hin : e ∈ W.T) :
    Calls Try.prog 73 #[nv e, .pointer (some ⟨b1, 0, none⟩), .pointer (some ⟨b2, 0, none⟩)] wr fun y w' => y = .returned (.bool (decide (ePos W.T e ∈ zs))) ∧ Chg [] wr w' := by
  have hbx : Blk (wr.alloc (.cells #[.int .i64 e.client, .int .u64 e.nonce, .int .u64 e.fee, .int .i64 e.cipher] 32)) wr.heap.size 32 (nc e) := Blk.new wr (nc e) 32
  have cA : Chg [] wr (wr.alloc (.cells #[.int .i64 e.client, .int .u64 e.nonce, .int .u64 e.fee, .int .i64 e.cipher] 32)) := (Chg.refl _ _).alloc _
  have hX := h.to cA
  have hI2 := hI.chg cA (by simp)
  have q1 := cA.cell h1 (by simp)
  have q2 := cA.cell h2 (by simp)
  have q3 := cA.cell hp (by simp)
  have HC := Lib.hid cA
  have HN := Lib.hid hn
  have HIN := Lib.hid hin
  have HE := Lib.hid he
  have HI := Lib.hid hI2
  clear h hp h1 h2 hI hI2 cA hn hin he
  go_enter Try.func73, Try.ntmps73
  go_upto_region 1 with (fail)
  generalize wr.heap.size = b3 at *
  generalize wr.alloc _ = w1 at *
  have x0 := hbx.at (i := 0) rfl
  have x1 := hbx.at (i := 1) rfl
  have x2 := hbx.at (i := 2) rfl
  have x3 := hbx.at (i := 3) rfl
  have hXd := hX.to ((Chg.refl [] w1).drew)
  obtain ⟨tb, tm, sb, sm, vb, Ft, Fs, Fv, hW, -⟩ := hXd
  have ht2 : t ≤ 1000000 := by omega
  obtain ⟨b, hbb⟩ : ∃ b, decide (ePos W.T e ∈ zs) = b := ⟨_, rfl⟩
  have HBB := Lib.hid hbb
  have HI3 : Hid (Isl w1.drew a zs) := HI.out
  clear hbb
  go_region_held3 (fun w' => w'.cell? ⟨b3, 0, none⟩ = some (.int .i64 e.client) ∧ w'.cell? ⟨b3, 1, none⟩ = some (.int .u64 e.nonce) ∧ w'.cell? ⟨b3, 2, none⟩ = some (.int .u64 e.fee) ∧ w'.cell? ⟨b3, 3, none⟩ = some (.int .i64 e.cipher) ∧ w'.cell? ⟨b1, 0, none⟩ = some (.slice a n cap) ∧ w'.cell? ⟨b2, 0, none⟩ = some (.pointer (some ⟨p, 0, none⟩)) ∧ w'.cell? ⟨p, 0, none⟩ = some (.pointer (some ⟨g, 0, none⟩))) (first | go_keep | exact qS)
    (first
      | ((go_at_call 23; (with_reducible refine (wDigIn hW ht2 e HE.out HIN.out).mono ?_); rintro y w5 ⟨rfl, c5⟩; have qS := And.intro (c5.cell x0 (by simp)) (And.intro (c5.cell x1 (by simp)) (And.intro (c5.cell x2 (by simp)) (And.intro (c5.cell x3 (by simp)) (And.intro (c5.cell q1 (by simp)) (And.intro (c5.cell q2 (by simp)) (c5.cell q3 (by simp))))))); have hI5 := HI3.out.chg c5 (by simp)))
      | ((go_at_call 74; (with_reducible refine (intContains HN.out hb hI5 (ePos W.T e) b HBB.out).mono ?_); rintro y w6 ⟨rfl, rfl⟩)))
  all_goals
    go_wp2_with fail
    go_ret
    exact ⟨by rw [HBB.out]; rfl, (HC.out.drew).trans c5⟩
set_option maxHeartbeats 1000000 in
theorem envIndex_batch {w : World} {s cap : Nat} {a : Option Addr} {l : List Env} {n : Nat} (hln : l.length = n) (c c2 : Value) (p : Env → Bool) (hl : n ≤ 1000000000) (ha : l = [] ∨ (a = some ⟨s, 0, none⟩ ∧ Nrow w s l))
    (hf : ∀ wx, Chg [] w wx → ∀ x ∈ l, Calls Try.prog 73 #[nv x, c, c2] wx fun e w' => e = .returned (.bool (p x)) ∧ Chg [] wx w') :
    Calls Try.prog 110 #[.slice a n cap, .func (.func 73) #[] #[c, c2]] w fun e w' => e = .returned (.int .i64 (idxE p l)) ∧ Chg [] w w' := by
  have HLN := Lib.hid hln
  have HA := Lib.hid ha
  have HF := Lib.hid hf
  clear hln ha hf
  go_enter Try.func110, Try.ntmps110
  go_wp2_with fail
  go_loopw [8] (fun i wr => ∃ j : Nat, j ≤ n ∧ i = .int .i64 j ∧ Hid (Chg [] w wr) ∧ Hid (∀ x ∈ l.take j, p x = false)) (fun i _ => n - (intOf i).toNat)
  case atStart => exact ⟨0, by omega, rfl, Chg.refl _ _, by simp [Hid]⟩
  case round =>
    obtain ⟨j, hj, rfl, HC, HN⟩ := hrel
    by_cases hlt : j < n
    · have hjl : j < l.length := by rw [HLN.out]; exact hlt
      have i1 : (0 : Int) ≤ (j : Int) := by omega
      have i2 : (j : Int) < (n : Int) := by omega
      have i3 : (j : Int) < 1000000000 := by omega
      rcases HA.out with e0 | ⟨rfl, hr⟩
      · subst e0; simp at hjl
      · obtain ⟨c0, c1, c2, c3⟩ := Nrow.at (Beg.chg hr HC.out (by simp)) hjl
        have hmem : l.getD j Env.zero ∈ l := by simp [List.getD, hjl]
        have hcall := HF.out wr HC.out _ hmem
        have htk : l.take (j + 1) = l.take j ++ [l.getD j Env.zero] := by
          rw [List.take_succ_eq_append_getElem hjl]
          simp [List.getD, hjl]
        have HX : Hid (∀ b, p (l.getD j Env.zero) = b → b = true → idxE p l = j) := fun b hb h => idxE_some hjl (hb.trans h) HN.out
        have HTK := Lib.hid htk
        generalize l.getD j Env.zero = x at *
        clear hr hjl hmem htk
        have HCA := Lib.hid hcall
        clear hcall
        cases hb : p x
        · have HB := Lib.hid hb
          clear hb
          go_wp2_with fail
          refine HCA.out.mono ?_
          rw [HB.out]
          rintro e w2 ⟨rfl, cc⟩
          have HC2 := Lib.hid (HC.out.trans cc)
          clear cc c0 c1 c2 c3
          go_wp2_with fail
          go_roundw
          case rel => exact ⟨j + 1, by omega, by go_num, HC2, fun y hy => by
            rw [HTK.out] at hy
            rcases List.mem_append.1 hy with h | h
            · exact HN.out y h
            · simp at h; rw [h]; exact HB.out⟩
          case measure => simp [intOf]; omega
        · have HB := Lib.hid hb
          clear hb
          go_wp2_with fail
          refine HCA.out.mono ?_
          rw [HB.out]
          rintro e w2 ⟨rfl, cc⟩
          have HC2 := Lib.hid (HC.out.trans cc)
          clear cc c0 c1 c2 c3
          go_wp2_with fail
          go_ret
          exact ⟨by rw [HX.out _ HB.out rfl]; rfl, HC2.out⟩
    · have e9 : n = j := by omega
      subst e9
      go_wp2_with fail
      go_ret
      refine ⟨?_, HC.out⟩
      rw [idxE_none (fun x hx => HN.out x (by rw [List.take_of_length_le (by rw [HLN.out]; exact Nat.le_refl _)]; exact hx))]
      rfl
set_option maxHeartbeats 2000000 in
theorem dropLit {w wr : World} {g l p nl b1 b2 n cap : Nat} {FE FL FP : List Nat} {W : WS} {S : LS} {most : Int} {L : List Env} {t tl : Nat} {a : Option Addr} {zs : List Int} (h : WldX w wr g FE W t) (ht : t ≤ 900000) (hp : wr.cell? ⟨p, 0, none⟩ = some (.pointer (some ⟨g, 0, none⟩)))
    (h1 : wr.cell? ⟨b1, 0, none⟩ = some (.slice a n cap)) (h2 : wr.cell? ⟨b2, 0, none⟩ = some (.pointer (some ⟨p, 0, none⟩))) (hn : zs.length = n) (hb : n ≤ 1000000000) (hI : Isl wr a zs) (e : Env) (he : e.Ok) (hin : e ∈ W.T) :
    Calls Try.prog 76 #[nv e, .pointer (some ⟨b1, 0, none⟩), .pointer (some ⟨b2, 0, none⟩)] wr fun y w' => y = .returned (.bool (decide (ePos W.T e ∈ zs))) ∧ Chg [] wr w' := by
  have hbx : Blk (wr.alloc (.cells #[.int .i64 e.client, .int .u64 e.nonce, .int .u64 e.fee, .int .i64 e.cipher] 32)) wr.heap.size 32 (nc e) := Blk.new wr (nc e) 32
  have cA : Chg [] wr (wr.alloc (.cells #[.int .i64 e.client, .int .u64 e.nonce, .int .u64 e.fee, .int .i64 e.cipher] 32)) := (Chg.refl _ _).alloc _
  have hX := h.to cA
  have hI2 := hI.chg cA (by simp)
  have q1 := cA.cell h1 (by simp)
  have q2 := cA.cell h2 (by simp)
  have q3 := cA.cell hp (by simp)
  have HC := Lib.hid cA
  have HN := Lib.hid hn
  have HIN := Lib.hid hin
  have HE := Lib.hid he
  have HI := Lib.hid hI2
  clear h hp h1 h2 hI hI2 cA hn hin he
  go_enter Try.func76, Try.ntmps76
  go_upto_region 1 with (fail)
  generalize wr.heap.size = b3 at *
  generalize wr.alloc _ = w1 at *
  have x0 := hbx.at (i := 0) rfl
  have x1 := hbx.at (i := 1) rfl
  have x2 := hbx.at (i := 2) rfl
  have x3 := hbx.at (i := 3) rfl
  have hXd := hX.to ((Chg.refl [] w1).drew)
  obtain ⟨tb, tm, sb, sm, vb, Ft, Fs, Fv, hW, -⟩ := hXd
  have ht2 : t ≤ 1000000 := by omega
  obtain ⟨b, hbb⟩ : ∃ b, decide (ePos W.T e ∈ zs) = b := ⟨_, rfl⟩
  have HBB := Lib.hid hbb
  have HI3 : Hid (Isl w1.drew a zs) := HI.out
  clear hbb
  go_region_held3 (fun w' => w'.cell? ⟨b3, 0, none⟩ = some (.int .i64 e.client) ∧ w'.cell? ⟨b3, 1, none⟩ = some (.int .u64 e.nonce) ∧ w'.cell? ⟨b3, 2, none⟩ = some (.int .u64 e.fee) ∧ w'.cell? ⟨b3, 3, none⟩ = some (.int .i64 e.cipher) ∧ w'.cell? ⟨b1, 0, none⟩ = some (.slice a n cap) ∧ w'.cell? ⟨b2, 0, none⟩ = some (.pointer (some ⟨p, 0, none⟩)) ∧ w'.cell? ⟨p, 0, none⟩ = some (.pointer (some ⟨g, 0, none⟩))) (first | go_keep | exact qS)
    (first
      | ((go_at_call 23; (with_reducible refine (wDigIn hW ht2 e HE.out HIN.out).mono ?_); rintro y w5 ⟨rfl, c5⟩; have qS := And.intro (c5.cell x0 (by simp)) (And.intro (c5.cell x1 (by simp)) (And.intro (c5.cell x2 (by simp)) (And.intro (c5.cell x3 (by simp)) (And.intro (c5.cell q1 (by simp)) (And.intro (c5.cell q2 (by simp)) (c5.cell q3 (by simp))))))); have hI5 := HI3.out.chg c5 (by simp)))
      | ((go_at_call 74; (with_reducible refine (intContains HN.out hb hI5 (ePos W.T e) b HBB.out).mono ?_); rintro y w6 ⟨rfl, rfl⟩)))
  all_goals
    go_wp2_with fail
    go_ret
    exact ⟨by rw [HBB.out]; rfl, (HC.out.drew).trans c5⟩
set_option maxHeartbeats 1000000 in
theorem envIndex_drop {w : World} {s cap : Nat} {a : Option Addr} {l : List Env} {n : Nat} (hln : l.length = n) (c c2 : Value) (p : Env → Bool) (hl : n ≤ 1000000000) (ha : l = [] ∨ (a = some ⟨s, 0, none⟩ ∧ Nrow w s l))
    (hf : ∀ wx, Chg [] w wx → ∀ x ∈ l, Calls Try.prog 76 #[nv x, c, c2] wx fun e w' => e = .returned (.bool (p x)) ∧ Chg [] wx w') :
    Calls Try.prog 110 #[.slice a n cap, .func (.func 76) #[] #[c, c2]] w fun e w' => e = .returned (.int .i64 (idxE p l)) ∧ Chg [] w w' := by
  have HLN := Lib.hid hln
  have HA := Lib.hid ha
  have HF := Lib.hid hf
  clear hln ha hf
  go_enter Try.func110, Try.ntmps110
  go_wp2_with fail
  go_loopw [8] (fun i wr => ∃ j : Nat, j ≤ n ∧ i = .int .i64 j ∧ Hid (Chg [] w wr) ∧ Hid (∀ x ∈ l.take j, p x = false)) (fun i _ => n - (intOf i).toNat)
  case atStart => exact ⟨0, by omega, rfl, Chg.refl _ _, by simp [Hid]⟩
  case round =>
    obtain ⟨j, hj, rfl, HC, HN⟩ := hrel
    by_cases hlt : j < n
    · have hjl : j < l.length := by rw [HLN.out]; exact hlt
      have i1 : (0 : Int) ≤ (j : Int) := by omega
      have i2 : (j : Int) < (n : Int) := by omega
      have i3 : (j : Int) < 1000000000 := by omega
      rcases HA.out with e0 | ⟨rfl, hr⟩
      · subst e0; simp at hjl
      · obtain ⟨c0, c1, c2, c3⟩ := Nrow.at (Beg.chg hr HC.out (by simp)) hjl
        have hmem : l.getD j Env.zero ∈ l := by simp [List.getD, hjl]
        have hcall := HF.out wr HC.out _ hmem
        have htk : l.take (j + 1) = l.take j ++ [l.getD j Env.zero] := by
          rw [List.take_succ_eq_append_getElem hjl]
          simp [List.getD, hjl]
        have HX : Hid (∀ b, p (l.getD j Env.zero) = b → b = true → idxE p l = j) := fun b hb h => idxE_some hjl (hb.trans h) HN.out
        have HTK := Lib.hid htk
        generalize l.getD j Env.zero = x at *
        clear hr hjl hmem htk
        have HCA := Lib.hid hcall
        clear hcall
        cases hb : p x
        · have HB := Lib.hid hb
          clear hb
          go_wp2_with fail
          refine HCA.out.mono ?_
          rw [HB.out]
          rintro e w2 ⟨rfl, cc⟩
          have HC2 := Lib.hid (HC.out.trans cc)
          clear cc c0 c1 c2 c3
          go_wp2_with fail
          go_roundw
          case rel => exact ⟨j + 1, by omega, by go_num, HC2, fun y hy => by
            rw [HTK.out] at hy
            rcases List.mem_append.1 hy with h | h
            · exact HN.out y h
            · simp at h; rw [h]; exact HB.out⟩
          case measure => simp [intOf]; omega
        · have HB := Lib.hid hb
          clear hb
          go_wp2_with fail
          refine HCA.out.mono ?_
          rw [HB.out]
          rintro e w2 ⟨rfl, cc⟩
          have HC2 := Lib.hid (HC.out.trans cc)
          clear cc c0 c1 c2 c3
          go_wp2_with fail
          go_ret
          exact ⟨by rw [HX.out _ HB.out rfl]; rfl, HC2.out⟩
    · have e9 : n = j := by omega
      subst e9
      go_wp2_with fail
      go_ret
      refine ⟨?_, HC.out⟩
      rw [idxE_none (fun x hx => HN.out x (by rw [List.take_of_length_le (by rw [HLN.out]; exact Nat.le_refl _)]; exact hx))]
      rfl
end Go.Proofs.Yteabcpmpcbjicaa
