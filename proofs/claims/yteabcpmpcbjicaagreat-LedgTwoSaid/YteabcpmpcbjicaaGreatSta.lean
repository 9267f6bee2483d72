
import Derived.Test.YteabcpmpcbjicaaGreatLedK
import Derived.Test.YteabcpmpcbjicaaGreatWire2
import Derived.Great.BuildSlice
namespace Go.Proofs.YteabcpmpcbjicaaGreat
set_option linter.unusedVariables false
open Go Go.Proofs Go.RowKit
attribute [local go_sem ↓] Go.wp_at_zero Go.wp_at_succ

/-! A ledger's bytes. -/
def onum (o : Ord) : List Int := num8 (uN o.id) ++ num8 (uN o.client) ++ num8 o.price ++ num8 o.qty
def rnum (L : List Ord) : List Int := num8 (uN (L.length : Int)) ++ L.flatMap onum
def cnum (n : Nat) (S : LS) (j : Nat) : List Int := num8 (S.nx.getD j 0) ++ num8 (aFree n S.xs (j : Int) 0) ++ num8 (aFree n S.xs (j : Int) 1)
def cliB (n : Nat) (S : LS) (k : Nat) : List Int := (List.range k).flatMap (cnum n S)
def midB (S : LS) : List Int := num8 S.got ++ num8 (lGivenV S 0) ++ num8 (lGivenV S 1) ++ num8 S.g0 ++ num8 S.g1 ++ num8 (uN (S.k : Int))
def stB (n : Nat) (S : LS) : List Int := cliB n S n ++ midB S ++ rnum S.L ++ rnum S.M
theorem num8_len (n : Int) : (num8 n).length = 8 := rfl
theorem cliB_succ (n : Nat) (S : LS) (k : Nat) : cliB n S (k + 1) = cliB n S k ++ num8 (S.nx.getD k 0) ++ num8 (aFree n S.xs (k : Int) 0) ++ num8 (aFree n S.xs (k : Int) 1) := by
  unfold cliB
  rw [List.range_succ, List.flatMap_append]
  simp [cnum]
theorem cliB_len (n : Nat) (S : LS) (k : Nat) : (cliB n S k).length = 24 * k := by
  induction k with
  | zero => rfl
  | succ k ih =>
    rw [cliB_succ]
    simp only [List.length_append, num8_len, ih]
    omega
theorem midB_len (S : LS) : (midB S).length = 48 := rfl
theorem flatO_len (L : List Ord) : (L.flatMap onum).length = 32 * L.length := by
  induction L with
  | nil => rfl
  | cons o L ih =>
    rw [List.flatMap_cons, List.length_append, ih]
    simp only [onum, List.length_append, num8_len, List.length_cons]
    omega
theorem rnum_len (L : List Ord) : (rnum L).length = 8 + 32 * L.length := by
  unfold rnum
  rw [List.length_append, flatO_len, num8_len]
theorem flatO_take {L : List Ord} {m : Nat} (h : m < L.length) : (L.take (m + 1)).flatMap onum = (L.take m).flatMap onum ++ num8 (uN (L.getD m Ord.zero).id) ++ num8 (uN (L.getD m Ord.zero).client) ++ num8 (L.getD m Ord.zero).price ++ num8 (L.getD m Ord.zero).qty := by
  rw [take_snocO h, List.flatMap_append]
  simp [onum]
theorem exLast {w wr : World} {x ab s kb n : Nat} {F : List Nat} {xs : List Int} {L M : List Ord} {k : Nat} (h : Exc w wr x ab s kb n F xs L M k) :
    Calls Tryz.prog 115 #[.pointer (some ⟨x, 0, none⟩)] wr fun e w' => e = .returned (.int .i64 (k : Int)) ∧ wr = w' := by
  have d2 := h.e.hd.at (i := 2) rfl
  go_enter Tryz.func115, Tryz.ntmps115
  go_wp2_with fail
  go_ret
  exact ⟨rfl, rfl⟩
theorem Chg.wri {wr W W' : World} {g : Nat} {F : List Nat} {l : List Int} (c : Chg [] wr W) (hg : wr.heap.size ≤ g) (h : Wri W g F l) (k : Chg F W W') : Chg [] wr W' :=
  c.trans' k (fun z hz => .inr (by have := h.lo z hz; omega))
/-- The writer's blocks that it has. -/
theorem Wri.tight {w : World} {g : Nat} {F : List Nat} {l : List Int} (h : Wri w g F l) : ∃ F2, Wri w g F2 l ∧ (∀ z ∈ F2, z ∈ F) ∧ ∀ z ∈ F2, z < w.heap.size := by
  obtain ⟨v, hb, ho, hv⟩ := h.hd
  refine ⟨g :: v.ownBlock.toList, ⟨⟨v, hb, ho, fun k hk => by simp [hk]⟩, by simp, fun z hz => ?_⟩, fun z hz => ?_, fun z hz => ?_⟩
  · rcases List.mem_cons.1 hz with e | e
    · omega
    · have := own_base ho z (by simpa using e)
      omega
  · rcases List.mem_cons.1 hz with e | e
    · exact e ▸ h.inF
    · exact hv z (by simpa using e)
  · rcases List.mem_cons.1 hz with e | e
    · exact e ▸ hb.lt
    · exact (ho.lt z (by simpa using e)).2
/-- A writer beside rows that were made between B1 and B2. -/
structure Sta (wr Wa : World) (B1 B2 g : Nat) (W : World) (F : List Nat) (B : List Int) : Prop where
  wri : Wri W g F B
  c : Chg [] wr W
  hg : wr.heap.size ≤ g
  out : ∀ z ∈ F, z < B1 ∨ B2 ≤ z
  lt : ∀ z ∈ F, z < W.heap.size
  sz : B2 ≤ W.heap.size
  btw : ∀ b, B1 ≤ b → b < B2 → W.heap[b]? = Wa.heap[b]?
theorem Sta.to {wr Wa W W' : World} {B1 B2 g : Nat} {F : List Nat} {B : List Int} (h : Sta wr Wa B1 B2 g W F B) (c : Chg [] W W') : Sta wr Wa B1 B2 g W' F B :=
  ⟨h.wri.to c, h.c.trans c, h.hg, h.out, fun z hz => Nat.lt_of_lt_of_le (h.lt z hz) c.size, Nat.le_trans h.sz c.size, fun b h1 h2 => (c.block b (Nat.lt_of_lt_of_le h2 h.sz) (by simp)).trans (h.btw b h1 h2)⟩
theorem Sta.num {wr Wa W W' : World} {B1 B2 g : Nat} {F F' : List Nat} {B B' : List Int} (h : Sta wr Wa B1 B2 g W F B) (k : Wri W' g F' B') (c : Chg F W W') (r : Grw W.heap.size F F') : ∃ F2, Sta wr Wa B1 B2 g W' F2 B' ∧ ∀ z ∈ F2, z ∈ F ∨ W.heap.size ≤ z := by
  obtain ⟨F2, k2, k3, k4⟩ := k.tight
  have hc : Chg [] wr W' := Chg.wri h.c h.hg h.wri c
  refine ⟨F2, ⟨k2, hc, h.hg, fun z hz => ?_, k4, Nat.le_trans h.sz c.size, fun b h1 h2 => ?_⟩, fun z hz => r z (k3 z hz)⟩
  · rcases r z (k3 z hz) with e | e
    · exact h.out z e
    · have := h.sz; exact .inr (by omega)
  · refine (c.block b (Nat.lt_of_lt_of_le h2 h.sz) (fun hm => ?_)).trans (h.btw b h1 h2)
    rcases h.out b hm with e | e <;> omega
theorem Osn.btw {wr Wa W : World} {B1 B2 g B : Nat} {F : List Nat} {l : List Int} {a : Option Addr} {L : List Ord} (h : Sta wr Wa B1 B2 g W F l) (k : Osn Wa B a L) (h1 : B1 ≤ B) (h2 : Wa.heap.size ≤ B2) : Osn W B a L := by
  rcases k with e | ⟨q, e, hq, ho⟩
  · exact .inl e
  · exact .inr ⟨q, e, hq, Beg.same ho (h.btw q (by omega) (by have := Beg.lt ho; omega))⟩
theorem Blk.btw {wr Wa W : World} {B1 B2 g b : Nat} {F : List Nat} {l : List Int} {T : TypeId} {c : List Value} (h : Sta wr Wa B1 B2 g W F l) (k : Blk Wa b T c) (h1 : B1 ≤ b) (h2 : Wa.heap.size ≤ B2) : Blk W b T c := k.same (h.btw b h1 (by have := k.lt; omega))
/-- What State reads of a ledger. -/
theorem LedX.parts {w wr : World} {l n : Nat} {F : List Nat} {S : LS} {t : Nat} (h : LedX w wr l n F S t) : ∃ ab fb x ns cap, n ≤ 1000 ∧ S.k ≤ t ∧ S.L.length + S.M.length ≤ S.k ∧ (∀ o ∈ S.L ++ S.M, OIn o) ∧ U S.got ∧ U S.g0 ∧ U S.g1 ∧ S.nx.length = n ∧ (∀ z ∈ S.nx, U z) ∧ AOk n S.xs ∧
    Blk wr l 141 [.pointer (some ⟨ab, 0, none⟩), .pointer (some ⟨fb, 0, none⟩), .pointer (some ⟨x, 0, none⟩), .slice (some ⟨ns, 0, none⟩) n cap, .int .u64 S.g0, .int .u64 S.g1, .int .u64 S.b0, .int .u64 S.b1] ∧
    Beg wr ns 27 (S.nx.map (Value.int .u64)) ∧ ∃ s kb F0, Exc w wr x ab s kb n F0 S.xs S.L S.M S.k := by
  obtain ⟨ab, s, fb, mb, x, kb, ns, F0, m, h, e0, e1, e2⟩ := h
  obtain ⟨cap, c1, c2, hd⟩ := h.hd
  exact ⟨ab, fb, x, ns, cap, h.ex.a.ok.most, e2, h.ex.ok.len, fun o ho => (h.ex.ok.oin o ho).1, h.fe.ug, h.ug.1, h.ug.2.1, h.nl, h.nu, h.ex.a.ok, hd, h.nx, s, kb, F0, h.ex⟩
theorem lGivenV_U (S : LS) (a : Int) : U (lGivenV S a) := by
  unfold lGivenV
  split
  · exact uW_U _
  · simp [U]
set_option maxRecDepth 100000 in
set_option maxHeartbeats 8000000 in
theorem lxState {w w0 : World} {l n : Nat} {FF : List Nat} {S : LS} {t : Nat} (h : LedX w w0 l n FF S t) (ht : t ≤ 100000) :
    Calls Tryz.prog 56 #[.pointer (some ⟨l, 0, none⟩)] w0 fun y w' => ∃ gg cap, y = .returned (.slice (some ⟨gg, 0, none⟩) (stB n S).length cap) ∧ w0.heap.size ≤ gg ∧ Beg w' gg 5 (bys (stB n S)) ∧ Chg [] w0 w' := by
  obtain ⟨ab, fb, x, ns, cap, hn, hkt, hLM, hoi, ug, u0, u1, hnl, hnu, hak, hd, hnx, s, kb, F0, hex⟩ := h.parts
  have d3 := hd.at (i := 3) rfl
  have HD := Lib.hid hd
  have HNX := Lib.hid hnx
  have HEX := Lib.hid hex
  have HH := Lib.hid h
  have HNL := Lib.hid hnl
  have HNU := Lib.hid hnu
  have HAK := Lib.hid hak
  have HOI := Lib.hid hoi
  have HUG := Lib.hid ug
  have HU0 := Lib.hid u0
  have HU1 := Lib.hid u1
  obtain ⟨nL, hnL⟩ : ∃ m, S.L.length = m := ⟨_, rfl⟩
  obtain ⟨nM, hnM⟩ : ∃ m, S.M.length = m := ⟨_, rfl⟩
  rw [hnL, hnM] at hLM
  have HNL2 := Lib.hid hnL
  have HNM2 := Lib.hid hnM
  have HB : Hid (n ≤ 1000 ∧ S.k ≤ 100000 ∧ nL + nM ≤ S.k) := ⟨hn, by omega, hLM⟩
  clear hd hnx hex h hnl hnu hak hoi ug u0 u1 hnL hnM hLM hkt ht hn
  go_enter Tryz.func56, Tryz.ntmps56
  go_wp2_with fail
  refine (wNew w0).mono ?_
  rintro e W ⟨rfl, hw, cw⟩
  obtain ⟨g, hge⟩ : ∃ g, w0.heap.size = g := ⟨_, rfl⟩
  have hg : w0.heap.size ≤ g := by omega
  rw [hge] at hw ⊢
  have HW : Hid (Wri W g [g] (cliB n S 0)) := hw
  have HC := Lib.hid cw
  clear cw hw hge
  have d3 := (HD.out.chg HC.out (by simp)).at (i := 3) rfl
  go_wp2_with fail
  go_loopw [16] (fun i wx => ∃ (k : Nat) (F : List Nat), k ≤ n ∧ i = .int .i64 k ∧ Hid (Wri wx g F (cliB n S k)) ∧ Hid (Chg [] w0 wx)) (fun i _ => n - (intOf i).toNat)
  case atStart => exact ⟨0, [g], by omega, rfl, HW, HC⟩
  case round =>
    clear HW HC d3
    obtain ⟨k, F, hk, rfl, HW, HC⟩ := hrel
    have HK := Lib.hid (cliB_len n S k)
    by_cases hkn : k < n
    · have j1 : (0 : Int) ≤ (k : Int) := by omega
      have j3 : (k : Int) < 1000 := by have := HB.out; omega
      have j2 : (k : Int) < (n : Int) := by omega
      have hkl : k < S.nx.length := by rw [HNL.out]; exact hkn
      have hnc := (HNX.out.chg HC.out (by simp)).at (i := k) (v := .int .u64 (S.nx.getD k 0)) (by simp [List.getD, hkl])
      have hnv : U (S.nx.getD k 0) := HNU.out _ (by simp [List.getD, hkl])
      have HNV := Lib.hid hnv
      clear hkl hnv
      go_wp2_with fail
      refine (wnum HW.out (S.nx.getD k 0) (HNV.out) (by (try simp only [List.length_append, num8_len]); have := HB.out; rw [HK.out]; omega)).mono ?_
      rintro e W2 ⟨rfl, F2, hw, cw, -⟩
      replace HC := Lib.hid (Chg.wri HC.out hg HW.out cw)
      replace HW := Lib.hid hw
      clear cw hw
      go_wp2_with fail
      refine (lxFree (HH.out.to HC.out) (k : Int) 0 _ rfl).mono ?_
      rintro e W2 ⟨rfl, cc⟩
      replace HC := Lib.hid (HC.out.trans cc)
      replace HW := Lib.hid (HW.out.to cc)
      clear cc
      go_wp2_with fail
      refine (wnum HW.out (aFree n S.xs (k : Int) 0) (aFree_U HAK.out _ _) (by (try simp only [List.length_append, num8_len]); have := HB.out; rw [HK.out]; omega)).mono ?_
      rintro e W2 ⟨rfl, F2, hw, cw, -⟩
      replace HC := Lib.hid (Chg.wri HC.out hg HW.out cw)
      replace HW := Lib.hid hw
      clear cw hw
      go_wp2_with fail
      refine (lxFree (HH.out.to HC.out) (k : Int) 1 _ rfl).mono ?_
      rintro e W2 ⟨rfl, cc⟩
      replace HC := Lib.hid (HC.out.trans cc)
      replace HW := Lib.hid (HW.out.to cc)
      clear cc
      go_wp2_with fail
      refine (wnum HW.out (aFree n S.xs (k : Int) 1) (aFree_U HAK.out _ _) (by (try simp only [List.length_append, num8_len]); have := HB.out; rw [HK.out]; omega)).mono ?_
      rintro e W2 ⟨rfl, F2, hw, cw, -⟩
      replace HC := Lib.hid (Chg.wri HC.out hg HW.out cw)
      replace HW := Lib.hid hw
      clear cw hw
      go_wp2_with fail
      go_roundw
      case rel => exact ⟨k + 1, _, by omega, by go_num, by rw [cliB_succ]; exact HW, HC⟩
      case measure => simp [intOf]; omega
    · have hkn2 : n = k := by omega
      subst hkn2
      go_wp2_with fail
      refine (lxGot (HH.out.to HC.out) _ rfl).mono ?_
      rintro e W2 ⟨rfl, cc⟩
      replace HC := Lib.hid (HC.out.trans cc)
      replace HW := Lib.hid (HW.out.to cc)
      clear cc
      go_wp2_with fail
      refine (wnum HW.out (S.got) (HUG.out) (by (try simp only [List.length_append, num8_len]); have := HB.out; rw [HK.out]; omega)).mono ?_
      rintro e W2 ⟨rfl, F2, hw, cw, -⟩
      replace HC := Lib.hid (Chg.wri HC.out hg HW.out cw)
      replace HW := Lib.hid hw
      clear cw hw
      go_wp2_with fail
      refine (lxGiven (HH.out.to HC.out) 0 _ rfl).mono ?_
      rintro e W2 ⟨rfl, cc⟩
      replace HC := Lib.hid (HC.out.trans cc)
      replace HW := Lib.hid (HW.out.to cc)
      clear cc
      go_wp2_with fail
      refine (wnum HW.out (lGivenV S 0) (lGivenV_U _ _) (by (try simp only [List.length_append, num8_len]); have := HB.out; rw [HK.out]; omega)).mono ?_
      rintro e W2 ⟨rfl, F2, hw, cw, -⟩
      replace HC := Lib.hid (Chg.wri HC.out hg HW.out cw)
      replace HW := Lib.hid hw
      clear cw hw
      go_wp2_with fail
      refine (lxGiven (HH.out.to HC.out) 1 _ rfl).mono ?_
      rintro e W2 ⟨rfl, cc⟩
      replace HC := Lib.hid (HC.out.trans cc)
      replace HW := Lib.hid (HW.out.to cc)
      clear cc
      go_wp2_with fail
      refine (wnum HW.out (lGivenV S 1) (lGivenV_U _ _) (by (try simp only [List.length_append, num8_len]); have := HB.out; rw [HK.out]; omega)).mono ?_
      rintro e W2 ⟨rfl, F2, hw, cw, -⟩
      replace HC := Lib.hid (Chg.wri HC.out hg HW.out cw)
      replace HW := Lib.hid hw
      clear cw hw
      have d4 := (HD.out.chg HC.out (by simp)).at (i := 4) rfl
      go_wp2_with fail
      refine (wnum HW.out (S.g0) (HU0.out) (by (try simp only [List.length_append, num8_len]); have := HB.out; rw [HK.out]; omega)).mono ?_
      rintro e W2 ⟨rfl, F2, hw, cw, -⟩
      replace HC := Lib.hid (Chg.wri HC.out hg HW.out cw)
      replace HW := Lib.hid hw
      clear cw hw
      have d5 := (HD.out.chg HC.out (by simp)).at (i := 5) rfl
      go_wp2_with fail
      refine (wnum HW.out (S.g1) (HU1.out) (by (try simp only [List.length_append, num8_len]); have := HB.out; rw [HK.out]; omega)).mono ?_
      rintro e W2 ⟨rfl, F2, hw, cw, -⟩
      replace HC := Lib.hid (Chg.wri HC.out hg HW.out cw)
      replace HW := Lib.hid hw
      clear cw hw
      have d2 := (HD.out.chg HC.out (by simp)).at (i := 2) rfl
      go_wp2_with fail
      refine (exLast (HEX.out.to HC.out)).mono ?_
      rintro e W2 ⟨rfl, rfl⟩
      go_wp2_with fail
      refine (wint HW.out ((S.k : Int)) (by (try simp only [List.length_append, num8_len]); have := HB.out; rw [HK.out]; omega)).mono ?_
      rintro e W2 ⟨rfl, F2, hw, cw, -⟩
      replace HC := Lib.hid (Chg.wri HC.out hg HW.out cw)
      replace HW := Lib.hid hw
      clear cw hw
      go_wp2_with fail
      obtain ⟨F9, hw9, -, hlt9⟩ := HW.out.tight
      replace HW := Lib.hid hw9
      have HLT := Lib.hid hlt9
      clear hw9 hlt9
      have HBB : Hid (W2.heap.size ≤ W2.heap.size) := Nat.le_refl _
      refine (lxBook (HH.out.to HC.out)).mono ?_
      rintro e W3 ⟨kb1, FB1, rfl, cc, hbk1, -⟩
      have hs1 := cc.size
      replace HC := Lib.hid (HC.out.trans cc)
      replace HW := Lib.hid (HW.out.to cc)
      clear cc
      go_wp2_with fail
      refine (bBids hbk1.bk (by rw [HNL2.out]; have := HB.out; omega)).mono ?_
      rintro e W4 ⟨v3, rfl, ho3, cc⟩
      have hs2 := cc.size
      replace HC := Lib.hid (HC.out.trans cc)
      replace HW := Lib.hid (HW.out.to cc)
      obtain ⟨a3, d3', hv3, hO3⟩ := ho3.osn
      rw [HNL2.out] at hv3
      subst hv3
      clear cc hbk1 ho3
      go_wp2_with fail
      refine (lxBook (HH.out.to HC.out)).mono ?_
      rintro e W5 ⟨kb2, FB2, rfl, cc, hbk2, -⟩
      have hs3 := cc.size
      replace HC := Lib.hid (HC.out.trans cc)
      replace HW := Lib.hid (HW.out.to cc)
      have HO3 := Lib.hid (hO3.chg0 cc)
      clear cc hO3
      go_wp2_with fail
      refine (bAsks hbk2.bk (by rw [HNM2.out]; have := HB.out; omega)).mono ?_
      rintro e W6 ⟨v5, rfl, ho5, cc⟩
      have hs4 := cc.size
      replace HC := Lib.hid (HC.out.trans cc)
      replace HW := Lib.hid (HW.out.to cc)
      replace HO3 := Lib.hid (HO3.out.chg0 cc)
      obtain ⟨a5, d5', hv5, hO5⟩ := ho5.osn
      rw [HNM2.out] at hv5
      subst hv5
      clear cc hbk2 ho5
      have hgb := Blk.new W6 [.slice a3 nL d3', .slice a5 nM d5'] 67
      replace HO3 := Lib.hid (HO3.out.chg0 ((Chg.refl [] W6).alloc (.cells #[.slice a3 nL d3', .slice a5 nM d5'] 67)))
      have HO5 := Lib.hid (hO5.chg0 ((Chg.refl [] W6).alloc (.cells #[.slice a3 nL d3', .slice a5 nM d5'] 67)))
      replace HC := Lib.hid (HC.out.alloc (.cells #[.slice a3 nL d3', .slice a5 nM d5'] 67))
      replace HW := Lib.hid (HW.out.to ((Chg.refl [] W6).alloc (.cells #[.slice a3 nL d3', .slice a5 nM d5'] 67)))
      have hsz : (W6.alloc (.cells #[.slice a3 nL d3', .slice a5 nM d5'] 67)).heap.size = W6.heap.size + 1 := by simp
      have HQ : Hid (W2.heap.size ≤ W3.heap.size ∧ W3.heap.size ≤ W4.heap.size ∧ W4.heap.size ≤ W5.heap.size ∧ W5.heap.size ≤ W6.heap.size) := ⟨hs1, hs2, hs3, hs4⟩
      clear hO5 hs1 hs2 hs3 hs4
      go_wp2_with fail
      generalize hWa : W6.alloc _ = Wa at *
      generalize hgbe : W6.heap.size = gb at *
      have HZ := Lib.hid hsz
      have HGB := Lib.hid hgb
      have hst : Sta w0 Wa W2.heap.size (gb + 1) g Wa F9 (cliB n S n ++ midB S) := ⟨by have := HW.out; simpa [midB] using this, HC.out, hg, fun z hz => .inl (HLT.out z hz), fun z hz => by have := HLT.out z hz; have := HQ.out; rw [hsz]; omega, by rw [hsz]; omega, fun _ _ _ => rfl⟩
      have HST := Lib.hid hst
      clear hst hsz hgb hWa hgbe HW HC HLT HBB
      have HM := Lib.hid (midB_len S)
      have HRL := Lib.hid (rnum_len S.L)
      have HRM := Lib.hid (rnum_len S.M)
      rw [HNL2.out] at HRL
      rw [HNM2.out] at HRM
      go_loopw [76] (fun i wx => ∃ (F : List Nat), (i = .int .i64 0 ∧ Hid (Sta w0 Wa W2.heap.size (gb + 1) g wx F (cliB n S n ++ midB S))) ∨ (i = .int .i64 1 ∧ Hid (Sta w0 Wa W2.heap.size (gb + 1) g wx F (cliB n S n ++ midB S ++ rnum S.L))) ∨ (i = .int .i64 2 ∧ Hid (Sta w0 Wa W2.heap.size (gb + 1) g wx F (cliB n S n ++ midB S ++ rnum S.L ++ rnum S.M)))) (fun i _ => 2 - (intOf i).toNat)
      case atStart => exact ⟨_, .inl ⟨rfl, HST⟩⟩
      case round =>
        clear HST
        obtain ⟨F, ⟨rfl, HST⟩ | ⟨rfl, HST⟩ | ⟨rfl, HST⟩⟩ := hrel
        · skip
          have c0 := (Blk.btw HST.out HGB.out (by have := HQ.out; omega) (by rw [HZ.out]; omega)).at (i := 0) rfl
          go_wp2_with fail
          refine (wint HST.out.wri ((nL : Int)) (by simp only [List.length_append]; rw [HK.out, HM.out]; have := HB.out; omega)).mono ?_
          rintro e W7 ⟨rfl, F2, hw, cw, rw7⟩
          obtain ⟨F3, hs3, hf3⟩ := HST.out.num hw cw rw7
          replace HST := Lib.hid hs3
          clear hw cw rw7 hs3 hf3
          go_wp2_with fail
          have HB2 : Hid (Sta w0 Wa W2.heap.size (gb + 1) g W7 F3 (cliB n S n ++ midB S ++ num8 (uN (nL : Int)) ++ (S.L.take 0).flatMap onum)) := Lib.hid (by have := HST.out; simpa using this)
          clear HST
          go_loopw [86] (fun i wx => ∃ (m : Nat) (F : List Nat), m ≤ nL ∧ i = .int .i64 m ∧ Hid (Sta w0 Wa W2.heap.size (gb + 1) g wx F (cliB n S n ++ midB S ++ num8 (uN (nL : Int)) ++ (S.L.take m).flatMap onum))) (fun i _ => nL - (intOf i).toNat)
          case atStart => exact ⟨0, _, by omega, rfl, HB2⟩
          case round =>
            clear HB2 c0
            obtain ⟨m, F, hm, rfl, HST⟩ := hrel
            by_cases hmt : m < nL
            · have hml : m < S.L.length := by rw [HNL2.out]; exact hmt
              obtain ⟨gq, rfl, hBq, t0, t1, t2, t3, t4⟩ := (Osn.btw HST.out HO3.out (by have := HQ.out; omega) (by rw [HZ.out]; omega)).cells hml
              have HTK := Lib.hid (flatO_take hml)
              have HTL : Hid (((S.L.take m).flatMap onum).length = 32 * m) := by show _ = _; rw [flatO_len, List.length_take, Nat.min_eq_left (by omega)]
              have HIN := Lib.hid (HOI.out _ (List.mem_append.2 (.inl (getD_mem hml))))
              generalize S.L.getD m Ord.zero = o at *
              have j1 : (0 : Int) ≤ (m : Int) := by omega
              have j3 : (m : Int) < 100000 := by have := HB.out; omega
              have j2 : (m : Int) < (nL : Int) := by omega
              have HNX2 : Hid (wr.heap.size ∉ F) := fun hm => by have := HST.out.lt _ hm; omega
              replace HST := Lib.hid (HST.out.to ((Chg.refl [] wr).alloc (.cells #[.int .i64 o.id, .int .i64 o.client, .bool o.buy, .int .u64 o.price, .int .u64 o.qty] 73)))
              have hbx : Blk (wr.alloc (.cells #[.int .i64 o.id, .int .i64 o.client, .bool o.buy, .int .u64 o.price, .int .u64 o.qty] 73)) wr.heap.size 73 (oc o) := Blk.new wr (oc o) 73
              have HXL : Hid (wr.heap.size < (wr.alloc (.cells #[.int .i64 o.id, .int .i64 o.client, .bool o.buy, .int .u64 o.price, .int .u64 o.qty] 73)).heap.size) := by show _ < _; simp
              clear hml hBq
              go_upto_region 22 with (fail)
              clear t0 t1 t2 t3 t4
              generalize wr.heap.size = gx at *
              generalize wr.alloc _ = W1 at *
              have y0 := hbx.at (i := 0) rfl
              have y1 := hbx.at (i := 1) rfl
              have y3 := hbx.at (i := 3) rfl
              have y4 := hbx.at (i := 4) rfl
              go_wp2_with fail
              refine (wint HST.out.wri (o.id) (by simp only [List.length_append, num8_len]; rw [HK.out, HM.out, HTL.out]; have := HB.out; omega)).mono ?_
              rintro e W7 ⟨rfl, F2, hw, cw, rw7⟩
              obtain ⟨F3, hs3, hf3⟩ := HST.out.num hw cw rw7
              have hbx := hbx.chg cw HNX2.out
              replace HNX2 : Hid (gx ∉ F3) := fun hm => (hf3 _ hm).elim HNX2.out (fun e => by have := HXL.out; omega)
              replace HXL : Hid (gx < W7.heap.size) := by have h1 := HXL.out; have h2 := cw.size; show _ < _; omega
              clear y0 y1 y3 y4
              replace HST := Lib.hid hs3
              clear hw cw rw7 hs3 hf3
              have y0 := hbx.at (i := 0) rfl
              have y1 := hbx.at (i := 1) rfl
              have y3 := hbx.at (i := 3) rfl
              have y4 := hbx.at (i := 4) rfl
              go_wp2_with fail
              refine (wint HST.out.wri (o.client) (by simp only [List.length_append, num8_len]; rw [HK.out, HM.out, HTL.out]; have := HB.out; omega)).mono ?_
              rintro e W7 ⟨rfl, F2, hw, cw, rw7⟩
              obtain ⟨F3, hs3, hf3⟩ := HST.out.num hw cw rw7
              have hbx := hbx.chg cw HNX2.out
              replace HNX2 : Hid (gx ∉ F3) := fun hm => (hf3 _ hm).elim HNX2.out (fun e => by have := HXL.out; omega)
              replace HXL : Hid (gx < W7.heap.size) := by have h1 := HXL.out; have h2 := cw.size; show _ < _; omega
              clear y0 y1 y3 y4
              replace HST := Lib.hid hs3
              clear hw cw rw7 hs3 hf3
              have y0 := hbx.at (i := 0) rfl
              have y1 := hbx.at (i := 1) rfl
              have y3 := hbx.at (i := 3) rfl
              have y4 := hbx.at (i := 4) rfl
              go_wp2_with fail
              refine (wnum HST.out.wri (o.price) (⟨by have := HIN.out.p; omega, by have := HIN.out.p; omega⟩) (by simp only [List.length_append, num8_len]; rw [HK.out, HM.out, HTL.out]; have := HB.out; omega)).mono ?_
              rintro e W7 ⟨rfl, F2, hw, cw, rw7⟩
              obtain ⟨F3, hs3, hf3⟩ := HST.out.num hw cw rw7
              have hbx := hbx.chg cw HNX2.out
              replace HNX2 : Hid (gx ∉ F3) := fun hm => (hf3 _ hm).elim HNX2.out (fun e => by have := HXL.out; omega)
              replace HXL : Hid (gx < W7.heap.size) := by have h1 := HXL.out; have h2 := cw.size; show _ < _; omega
              clear y0 y1 y3 y4
              replace HST := Lib.hid hs3
              clear hw cw rw7 hs3 hf3
              have y0 := hbx.at (i := 0) rfl
              have y1 := hbx.at (i := 1) rfl
              have y3 := hbx.at (i := 3) rfl
              have y4 := hbx.at (i := 4) rfl
              go_wp2_with fail
              refine (wnum HST.out.wri (o.qty) (⟨by have := HIN.out.q; omega, by have := HIN.out.q; omega⟩) (by simp only [List.length_append, num8_len]; rw [HK.out, HM.out, HTL.out]; have := HB.out; omega)).mono ?_
              rintro e W7 ⟨rfl, F2, hw, cw, rw7⟩
              obtain ⟨F3, hs3, hf3⟩ := HST.out.num hw cw rw7
              have hbx := hbx.chg cw HNX2.out
              replace HNX2 : Hid (gx ∉ F3) := fun hm => (hf3 _ hm).elim HNX2.out (fun e => by have := HXL.out; omega)
              replace HXL : Hid (gx < W7.heap.size) := by have h1 := HXL.out; have h2 := cw.size; show _ < _; omega
              clear y0 y1 y3 y4
              replace HST := Lib.hid hs3
              clear hw cw rw7 hs3 hf3
              have y0 := hbx.at (i := 0) rfl
              have y1 := hbx.at (i := 1) rfl
              have y3 := hbx.at (i := 3) rfl
              have y4 := hbx.at (i := 4) rfl
              go_wp2_with fail
              go_roundw
              case rel => exact ⟨m + 1, _, by omega, by go_num, Lib.hid (by rw [HTK.out]; have := HST.out; simpa using this)⟩
              case measure => simp [intOf]; omega
            · have hm2 : nL = m := by omega
              subst hm2
              have HF9 : Hid (cliB n S n ++ midB S ++ num8 (uN (nL : Int)) ++ (S.L.take nL).flatMap onum = cliB n S n ++ midB S ++ rnum S.L) := by show _ = _; rw [List.take_of_length_le (by rw [HNL2.out]; exact Nat.le_refl _)]; simp [rnum, HNL2.out]
              rw [HF9.out] at HST
              go_wp2_with fail
              go_roundw
              case rel => exact ⟨_, .inr (.inl ⟨rfl, HST⟩)⟩
              case measure => simp [intOf]
        · skip
          have c0 := (Blk.btw HST.out HGB.out (by have := HQ.out; omega) (by rw [HZ.out]; omega)).at (i := 1) rfl
          go_wp2_with fail
          refine (wint HST.out.wri ((nM : Int)) (by simp only [List.length_append]; rw [HK.out, HM.out, HRL.out]; have := HB.out; omega)).mono ?_
          rintro e W7 ⟨rfl, F2, hw, cw, rw7⟩
          obtain ⟨F3, hs3, hf3⟩ := HST.out.num hw cw rw7
          replace HST := Lib.hid hs3
          clear hw cw rw7 hs3 hf3
          go_wp2_with fail
          have HB2 : Hid (Sta w0 Wa W2.heap.size (gb + 1) g W7 F3 (cliB n S n ++ midB S ++ rnum S.L ++ num8 (uN (nM : Int)) ++ (S.M.take 0).flatMap onum)) := Lib.hid (by have := HST.out; simpa using this)
          clear HST
          go_loopw [86] (fun i wx => ∃ (m : Nat) (F : List Nat), m ≤ nM ∧ i = .int .i64 m ∧ Hid (Sta w0 Wa W2.heap.size (gb + 1) g wx F (cliB n S n ++ midB S ++ rnum S.L ++ num8 (uN (nM : Int)) ++ (S.M.take m).flatMap onum))) (fun i _ => nM - (intOf i).toNat)
          case atStart => exact ⟨0, _, by omega, rfl, HB2⟩
          case round =>
            clear HB2 c0
            obtain ⟨m, F, hm, rfl, HST⟩ := hrel
            by_cases hmt : m < nM
            · have hml : m < S.M.length := by rw [HNM2.out]; exact hmt
              obtain ⟨gq, rfl, hBq, t0, t1, t2, t3, t4⟩ := (Osn.btw HST.out HO5.out (by have := HQ.out; omega) (by rw [HZ.out]; omega)).cells hml
              have HTK := Lib.hid (flatO_take hml)
              have HTL : Hid (((S.M.take m).flatMap onum).length = 32 * m) := by show _ = _; rw [flatO_len, List.length_take, Nat.min_eq_left (by omega)]
              have HIN := Lib.hid (HOI.out _ (List.mem_append.2 (.inr (getD_mem hml))))
              generalize S.M.getD m Ord.zero = o at *
              have j1 : (0 : Int) ≤ (m : Int) := by omega
              have j3 : (m : Int) < 100000 := by have := HB.out; omega
              have j2 : (m : Int) < (nM : Int) := by omega
              have HNX2 : Hid (wr.heap.size ∉ F) := fun hm => by have := HST.out.lt _ hm; omega
              replace HST := Lib.hid (HST.out.to ((Chg.refl [] wr).alloc (.cells #[.int .i64 o.id, .int .i64 o.client, .bool o.buy, .int .u64 o.price, .int .u64 o.qty] 73)))
              have hbx : Blk (wr.alloc (.cells #[.int .i64 o.id, .int .i64 o.client, .bool o.buy, .int .u64 o.price, .int .u64 o.qty] 73)) wr.heap.size 73 (oc o) := Blk.new wr (oc o) 73
              have HXL : Hid (wr.heap.size < (wr.alloc (.cells #[.int .i64 o.id, .int .i64 o.client, .bool o.buy, .int .u64 o.price, .int .u64 o.qty] 73)).heap.size) := by show _ < _; simp
              clear hml hBq
              go_upto_region 22 with (fail)
              clear t0 t1 t2 t3 t4
              generalize wr.heap.size = gx at *
              generalize wr.alloc _ = W1 at *
              have y0 := hbx.at (i := 0) rfl
              have y1 := hbx.at (i := 1) rfl
              have y3 := hbx.at (i := 3) rfl
              have y4 := hbx.at (i := 4) rfl
              go_wp2_with fail
              refine (wint HST.out.wri (o.id) (by simp only [List.length_append, num8_len]; rw [HK.out, HM.out, HTL.out, HRL.out]; have := HB.out; omega)).mono ?_
              rintro e W7 ⟨rfl, F2, hw, cw, rw7⟩
              obtain ⟨F3, hs3, hf3⟩ := HST.out.num hw cw rw7
              have hbx := hbx.chg cw HNX2.out
              replace HNX2 : Hid (gx ∉ F3) := fun hm => (hf3 _ hm).elim HNX2.out (fun e => by have := HXL.out; omega)
              replace HXL : Hid (gx < W7.heap.size) := by have h1 := HXL.out; have h2 := cw.size; show _ < _; omega
              clear y0 y1 y3 y4
              replace HST := Lib.hid hs3
              clear hw cw rw7 hs3 hf3
              have y0 := hbx.at (i := 0) rfl
              have y1 := hbx.at (i := 1) rfl
              have y3 := hbx.at (i := 3) rfl
              have y4 := hbx.at (i := 4) rfl
              go_wp2_with fail
              refine (wint HST.out.wri (o.client) (by simp only [List.length_append, num8_len]; rw [HK.out, HM.out, HTL.out, HRL.out]; have := HB.out; omega)).mono ?_
              rintro e W7 ⟨rfl, F2, hw, cw, rw7⟩
              obtain ⟨F3, hs3, hf3⟩ := HST.out.num hw cw rw7
              have hbx := hbx.chg cw HNX2.out
              replace HNX2 : Hid (gx ∉ F3) := fun hm => (hf3 _ hm).elim HNX2.out (fun e => by have := HXL.out; omega)
              replace HXL : Hid (gx < W7.heap.size) := by have h1 := HXL.out; have h2 := cw.size; show _ < _; omega
              clear y0 y1 y3 y4
              replace HST := Lib.hid hs3
              clear hw cw rw7 hs3 hf3
              have y0 := hbx.at (i := 0) rfl
              have y1 := hbx.at (i := 1) rfl
              have y3 := hbx.at (i := 3) rfl
              have y4 := hbx.at (i := 4) rfl
              go_wp2_with fail
              refine (wnum HST.out.wri (o.price) (⟨by have := HIN.out.p; omega, by have := HIN.out.p; omega⟩) (by simp only [List.length_append, num8_len]; rw [HK.out, HM.out, HTL.out, HRL.out]; have := HB.out; omega)).mono ?_
              rintro e W7 ⟨rfl, F2, hw, cw, rw7⟩
              obtain ⟨F3, hs3, hf3⟩ := HST.out.num hw cw rw7
              have hbx := hbx.chg cw HNX2.out
              replace HNX2 : Hid (gx ∉ F3) := fun hm => (hf3 _ hm).elim HNX2.out (fun e => by have := HXL.out; omega)
              replace HXL : Hid (gx < W7.heap.size) := by have h1 := HXL.out; have h2 := cw.size; show _ < _; omega
              clear y0 y1 y3 y4
              replace HST := Lib.hid hs3
              clear hw cw rw7 hs3 hf3
              have y0 := hbx.at (i := 0) rfl
              have y1 := hbx.at (i := 1) rfl
              have y3 := hbx.at (i := 3) rfl
              have y4 := hbx.at (i := 4) rfl
              go_wp2_with fail
              refine (wnum HST.out.wri (o.qty) (⟨by have := HIN.out.q; omega, by have := HIN.out.q; omega⟩) (by simp only [List.length_append, num8_len]; rw [HK.out, HM.out, HTL.out, HRL.out]; have := HB.out; omega)).mono ?_
              rintro e W7 ⟨rfl, F2, hw, cw, rw7⟩
              obtain ⟨F3, hs3, hf3⟩ := HST.out.num hw cw rw7
              have hbx := hbx.chg cw HNX2.out
              replace HNX2 : Hid (gx ∉ F3) := fun hm => (hf3 _ hm).elim HNX2.out (fun e => by have := HXL.out; omega)
              replace HXL : Hid (gx < W7.heap.size) := by have h1 := HXL.out; have h2 := cw.size; show _ < _; omega
              clear y0 y1 y3 y4
              replace HST := Lib.hid hs3
              clear hw cw rw7 hs3 hf3
              have y0 := hbx.at (i := 0) rfl
              have y1 := hbx.at (i := 1) rfl
              have y3 := hbx.at (i := 3) rfl
              have y4 := hbx.at (i := 4) rfl
              go_wp2_with fail
              go_roundw
              case rel => exact ⟨m + 1, _, by omega, by go_num, Lib.hid (by rw [HTK.out]; have := HST.out; simpa using this)⟩
              case measure => simp [intOf]; omega
            · have hm2 : nM = m := by omega
              subst hm2
              have HF9 : Hid (cliB n S n ++ midB S ++ rnum S.L ++ num8 (uN (nM : Int)) ++ (S.M.take nM).flatMap onum = cliB n S n ++ midB S ++ rnum S.L ++ rnum S.M) := by show _ = _; rw [List.take_of_length_le (by rw [HNM2.out]; exact Nat.le_refl _)]; simp [rnum, HNM2.out]
              rw [HF9.out] at HST
              go_wp2_with fail
              go_roundw
              case rel => exact ⟨_, .inr (.inr ⟨rfl, HST⟩)⟩
              case measure => simp [intOf]
        · go_wp2_with fail
          refine (wbytes HST.out.wri ?_ ?_).mono ?_
          · simp only [List.length_append]
            rw [HK.out, HM.out, HRL.out, HRM.out]
            have := HB.out
            omega
          · intro e
            have : (cliB n S n ++ midB S ++ rnum S.L ++ rnum S.M).length = 0 := by rw [e]; rfl
            simp only [List.length_append] at this
            rw [HM.out] at this
            omega
          obtain ⟨n9, hn9⟩ : ∃ n9, (cliB n S n ++ midB S ++ rnum S.L ++ rnum S.M).length = n9 := ⟨_, rfl⟩
          have HN9 : Hid ((stB n S).length = n9) := hn9
          rw [hn9]
          rintro e W8 ⟨gg, cap, rfl, hgg, hbe, cc⟩
          clear hn9
          go_wp2_with fail
          go_ret
          exact ⟨gg, cap, by rw [HN9.out]; rfl, by have := HST.out.c.size; omega, hbe, HST.out.c.trans cc⟩
end Go.Proofs.YteabcpmpcbjicaaGreat
