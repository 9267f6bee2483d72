
import Derived.Test.YteabcpmpcbjicaaSeal
import Derived.Deep.RegionHeld3
import Derived.Lib.SlBytesConst
namespace Go.Proofs.Yteabcpmpcbjicaa
set_option linter.unusedVariables false
set_option maxRecDepth 100000
open Go Go.Proofs Go.RowKit Go.Maps
attribute [local go_sem ↓] Go.wp_at_zero Go.wp_at_succ

set_option maxHeartbeats 2000000 in
/-- A text of which just the cells are known (a constant's). -/
theorem wtextC {w : World} {g : Nat} {F : List Nat} {l : List Int} (h : Wri w g F l) (ga n c : Nat) (bs : List Int) (hbs : bs.length = n) (hn : n ≤ 1000000) (hl : l.length < 800000000) (hc : ∀ j u, (bys bs)[j]? = some u → w.cell? ⟨ga, j, none⟩ = some u) (hga : ga ∉ F) :
    Calls Try.prog 67 #[.pointer (some ⟨g, 0, none⟩), .slice (some ⟨ga, 0, none⟩) n c] w fun e w' => e = .returned (.tuple #[]) ∧ ∃ F', Wri w' g F' (l ++ num8 (n : Int) ++ bs) ∧ Chg F w w' ∧ Grw w.heap.size F F' := by
  obtain ⟨i0, hi, hz0, hz1, hz2⟩ := info_parts info_u8
  have hun : uN (n : Int) = (n : Int) := by unfold uN; omega
  have HUN := Lib.hid hun
  have HBS := Lib.hid hbs
  clear hun hbs
  go_enter Try.func67, Try.ntmps67
  go_wp2_with fail
  refine (wint h (n : Int) (by omega)).mono ?_
  rw [HUN.out]
  rintro e w2 ⟨rfl, F2, h2, c2, g2⟩
  have hc2 : ∀ j u, (bys bs)[j]? = some u → w2.cell? ⟨ga, j, none⟩ = some u := fun j u hj => c2.cell (hc j u hj) hga
  obtain ⟨v, hb, ho, hv⟩ := h2.hd
  have h0 := hb.at (i := 0) rfl
  have hlt := hb.lt
  have hlen : (l ++ num8 (n : Int)).length = l.length + 8 := by simp [num8]
  obtain ⟨m, hm⟩ : ∃ m, (l ++ num8 (n : Int)).length = m := ⟨_, rfl⟩
  rw [hm] at ho hlen
  have HIN := h2.inF
  have HLO := Lib.hid h2.lo
  have hmb : m ≤ 900000000 := by omega
  clear hc hlen
  go_wp2_with (at_builtin; refine wpList_append_at _ rfl (.tmp 12) (.tmp 13) 126 rfl (g + 1) 5 i0 (.int .u8 0) 1 1 Try.underlying126 hi hz0 hz1 hz2 rfl (by decide) v m (bys (l ++ num8 (n : Int))) rfl ho ⟨ga, 0, none⟩ n c (bys bs) rfl ?c0 ?c1 ?c2 ?c3 ?c4 ?c5 ?_)
  case c0 => simp [bys, HBS.out]
  case c1 => intro j u hj; rw [add_none, Nat.zero_add]; exact hc2 j u hj
  case c2 => intro u hu; obtain ⟨y, _, rfl⟩ := List.mem_map.1 hu; rfl
  case c3 => unfold maxLen; omega
  case c4 => omega
  case c5 => omega
  intro v1 w3 hown hg hat
  obtain ⟨a1, c1, hv1⟩ := own_slice hown
  subst hv1
  have cG : Chg F2 w2 w3 := (Chg.refl F2 w2).grown hg (fun k hk => .inl (hv k hk))
  have hE : w3.heap[g]? = w2.heap[g]? := hg.block g hlt (fun e => by have := own_base ho g e.symm; omega)
  have hb3 := hb.same hE
  have hf3 := hb3.free 0
  have h03 := hb3.at (i := 0) rfl
  have hat2 : ∀ k, Value.ownBlock (.slice a1 (m + n) c1) = some k → k ∈ F2 ∨ w2.heap.size ≤ k := fun k hk => hat.elim (fun e => .inl (hv k (e ▸ hk))) (fun e => .inr (by rw [hk] at e; injection e with e; rw [e]; exact Nat.le_refl _))
  have hln : Hid (m + n = (l ++ num8 (n : Int) ++ bs).length) := by show m + n = _; rw [List.length_append, hm, HBS.out]
  have hbb : Hid (bys (l ++ num8 (n : Int)) ++ bys bs = bys (l ++ num8 (n : Int) ++ bs)) := by show _ = _; simp [bys]
  obtain ⟨F3, hW, hG3⟩ := wri_sto (Fr := F2) (K := w2.heap.size) hb3 (by have h9 := hown; rw [hln.out, hbb.out] at h9; rw [hln.out]; exact h9) hat2 HIN HLO.out hlt
  have cW : Chg F w (w3.setCell ⟨g, 0, none⟩ (.slice a1 (m + n) c1)) := c2.trans' (cG.setCell ⟨g, 0, none⟩ (.slice a1 (m + n) c1) (.inl HIN)) (fun z hz => (g2 z hz).imp id id)
  have gW : Grw w.heap.size F F3 := g2.trans hG3 c2.size
  have HW := Lib.hid hW
  have HC := Lib.hid cW
  clear hown hg hat hat2 hE hb hb3 ho hv hc2 cG hW cW h2 c2 hG3
  go_wp2_with fail
  go_end0
  exact ⟨rfl, F3, HW.out, HC.out, gW⟩
/-- An envelope. -/
structure Env where
  client : Int
  nonce : Int
  fee : Int
  cipher : Int
deriving DecidableEq
def nc (e : Env) : List Value := [.int .i64 e.client, .int .u64 e.nonce, .int .u64 e.fee, .int .i64 e.cipher]
abbrev nv (e : Env) : Value := .agg #[.int .i64 e.client, .int .u64 e.nonce, .int .u64 e.fee, .int .i64 e.cipher]
structure Env.Ok (e : Env) : Prop where
  client : I e.client
  nonce : U e.nonce
  fee : U e.fee
  cipher : I e.cipher
/-- An envelope's bytes. -/
def enb (e : Env) : List Int := num8 3 ++ [101, 110, 118] ++ num8 (uN e.client) ++ num8 e.nonce ++ num8 e.fee ++ num8 (uN e.cipher)
theorem uN_inj {a b : Int} (ha : I a) (hb : I b) (h : uN a = uN b) : a = b := by
  obtain ⟨a0, a1⟩ := ha
  obtain ⟨b0, b1⟩ := hb
  unfold uN at h
  omega
theorem enb_byt (e : Env) : Byt (enb e) := by
  unfold enb
  refine byt_append (byt_append (byt_append (byt_append (byt_append (num8_byt _) ?_) (num8_byt _)) (num8_byt _)) (num8_byt _)) (num8_byt _)
  intro x hx
  simp at hx
  omega
theorem enb_len (e : Env) : (enb e).length = 43 := rfl
theorem enb_inj {a b : Env} (ha : a.Ok) (hb : b.Ok) (h : enb a = enb b) : a = b := by
  unfold enb at h
  have k : ∀ {l m p q : List Int}, l.length = m.length → l ++ p = m ++ q → l = m ∧ p = q := fun {l m p q} hl e => List.append_inj e hl
  obtain ⟨h, h4⟩ := List.append_inj h rfl
  obtain ⟨h, h3⟩ := List.append_inj h rfl
  obtain ⟨h, h2⟩ := List.append_inj h rfl
  obtain ⟨h, h1⟩ := List.append_inj h rfl
  have e1 := uN_inj ha.client hb.client (num8_inj (uN_U _) (uN_U _) h1)
  have e2 := num8_inj ha.nonce hb.nonce h2
  have e3 := num8_inj ha.fee hb.fee h3
  have e4 := uN_inj ha.cipher hb.cipher (num8_inj (uN_U _) (uN_U _) h4)
  cases a; cases b
  simp_all
/-! Digests of envelopes. -/
def dT (T : List Env) : List (List UInt8) := T.map fun e => ub (enb e)
def eIns (T : List Env) (e : Env) : List Env := if e ∈ T then T else T ++ [e]
def ePos (T : List Env) (e : Env) : Int := if e ∈ T then ((T.idxOf e : Nat) : Int) + 1 else 0
theorem dT_mem {T : List Env} (hT : ∀ x ∈ T, x.Ok) {e : Env} (he : e.Ok) : ub (enb e) ∈ dT T ↔ e ∈ T := by
  unfold dT
  constructor
  · intro h
    obtain ⟨x, hx, hxe⟩ := List.mem_map.1 h
    rw [← enb_inj (hT x hx) he (ub_inj (enb_byt x) (enb_byt e) hxe)]
    exact hx
  · exact fun h => List.mem_map.2 ⟨e, h, rfl⟩
theorem dT_ins {T : List Env} (hT : ∀ x ∈ T, x.Ok) {e : Env} (he : e.Ok) : tins (dT T) (ub (enb e)) = dT (eIns T e) := by
  unfold tins eIns
  by_cases h : e ∈ T
  · rw [if_pos ((dT_mem hT he).2 h), if_pos h]
  · rw [if_neg (fun q => h ((dT_mem hT he).1 q)), if_neg h]
    simp [dT]
theorem idx_map : ∀ {T : List Env}, (∀ x ∈ T, x.Ok) → ∀ {e : Env}, e.Ok → e ∈ T → (dT T).idxOf (ub (enb e)) = T.idxOf e
  | [], _, e, _, h => by cases h
  | x :: T, hT, e, he, h => by
    have hx := hT x (by simp)
    unfold dT
    rw [List.map_cons, List.idxOf_cons, List.idxOf_cons]
    by_cases q : x = e
    · subst q; simp
    · have q2 : ¬ ub (enb x) = ub (enb e) := fun z => q (enb_inj hx he (ub_inj (enb_byt x) (enb_byt e) z))
      have he' : e ∈ T := (List.mem_cons.1 h).resolve_left (fun z => q z.symm)
      have ih := idx_map (fun y hy => hT y (by simp [hy])) he he'
      unfold dT at ih
      simp only [beq_iff_eq, q, q2, if_false, ih, Bool.cond_eq_ite]
theorem dT_pos {T : List Env} (hT : ∀ x ∈ T, x.Ok) {e : Env} (he : e.Ok) : pos (dT T) (ub (enb e)) = ePos T e := by
  unfold pos ePos
  by_cases h : e ∈ T
  · rw [if_pos ((dT_mem hT he).2 h), if_pos h, idx_map hT he h]
  · rw [if_neg (fun q => h ((dT_mem hT he).1 q)), if_neg h]
theorem eIns_ok {T : List Env} (hT : ∀ x ∈ T, x.Ok) {e : Env} (he : e.Ok) : ∀ x ∈ eIns T e, x.Ok := fun x hx => by
  unfold eIns at hx
  split at hx
  · exact hT x hx
  · rcases List.mem_append.1 hx with h | h
    · exact hT x h
    · simp at h; exact h ▸ he
theorem eIns_len (T : List Env) (e : Env) : (eIns T e).length ≤ T.length + 1 := by
  unfold eIns; split <;> simp
/-! A world of digests, signatures and ciphers. -/
structure WS where
  T : List Env
  f : Int → List Int
  need : Int
  L : List Cph
structure Wld (w wr : World) (g tb tm sb sm vb : Nat) (Ft Fs Fv : List Nat) (t : Nat) (W : WS) : Prop where
  hd : Blk wr g 119 [.pointer (some ⟨tb, 0, none⟩), .pointer (some ⟨sb, 0, none⟩), .pointer (some ⟨vb, 0, none⟩)]
  te : Ter wr tb tm Ft (dT W.T)
  sg : ∃ n, Sgn wr sb sm Fs n W.f ∧ n ≤ t
  va : Vlt wr vb Fv W.need W.L
  ok : ∀ x ∈ W.T, x.Ok
  bd : W.T.length ≤ t ∧ W.L.length ≤ t ∧ ∀ d, (W.f d).length ≤ t
  ap : (∀ z ∈ Ft, z ∉ Fs ∧ z ∉ Fv) ∧ (∀ z ∈ Fs, z ∉ Fv) ∧ g ∉ Ft ∧ g ∉ Fs ∧ g ∉ Fv
  lo : w.heap.size ≤ g ∧ (∀ z ∈ Ft, w.heap.size ≤ z) ∧ (∀ z ∈ Fs, w.heap.size ≤ z) ∧ ∀ z ∈ Fv, w.heap.size ≤ z
  c : Chg [] w wr
/-- A world, by its pointer; F: its blocks; t: how much was done. -/
def WldX (w wr : World) (g : Nat) (F : List Nat) (W : WS) (t : Nat) : Prop :=
  ∃ tb tm sb sm vb Ft Fs Fv, Wld w wr g tb tm sb sm vb Ft Fs Fv t W ∧ F = g :: (Ft ++ (Fs ++ Fv))
theorem Ter.aside {w w' : World} {g mb : Nat} {F S : List Nat} {T : List (List UInt8)} (h : Ter w g mb F T) (c : Chg S w w') (hs : ∀ z ∈ S, z ∉ F) : Ter w' g mb F T := by
  obtain ⟨v, hb, ho, hv⟩ := h.hd
  exact ⟨⟨v, hb.chg c (fun hm => hs g hm h.inF.1), own_chg2 ho c (fun k hk hm => hs k hm (hv k hk)), hv⟩, h.mp.chg c (fun hm => hs _ hm h.inF.2), h.inF, h.lo, fun z hz => Nat.lt_of_lt_of_le (h.lt z hz) c.size, h.ne⟩
theorem WldX.aside {w wr w' : World} {g : Nat} {F S : List Nat} {W : WS} {t : Nat} (h : WldX w wr g F W t) (c : Chg S wr w') (hs : ∀ z ∈ S, z ∉ F ∧ w.heap.size ≤ z) : WldX w w' g F W t := by
  obtain ⟨tb, tm, sb, sm, vb, Ft, Fs, Fv, h, rfl⟩ := h
  have k : ∀ z, z ∈ g :: (Ft ++ (Fs ++ Fv)) → z ∉ S := fun z hz hm => (hs z hm).1 hz
  obtain ⟨n, hn, hnt⟩ := h.sg
  exact ⟨tb, tm, sb, sm, vb, Ft, Fs, Fv, ⟨h.hd.chg c (k _ (by simp)), h.te.aside c (fun z hz hm => k z (by simp [hm]) hz), ⟨n, hn.aside c (fun z hz hm => k z (by simp [hm]) hz), hnt⟩, h.va.aside c (fun z hz hm => k z (by simp [hm]) hz), h.ok, h.bd, h.ap, h.lo, h.c.trans' c (fun z hz => .inr (hs z hz).2)⟩, rfl⟩
theorem WldX.to {w wr w' : World} {g : Nat} {F : List Nat} {W : WS} {t : Nat} (h : WldX w wr g F W t) (c : Chg [] wr w') : WldX w w' g F W t := h.aside c (by simp)
theorem WldX.c {w wr : World} {g : Nat} {F : List Nat} {W : WS} {t : Nat} (h : WldX w wr g F W t) : Chg [] w wr := by
  obtain ⟨tb, tm, sb, sm, vb, Ft, Fs, Fv, h, rfl⟩ := h
  exact h.c
theorem WldX.lt {w wr : World} {g : Nat} {F : List Nat} {W : WS} {t : Nat} (h : WldX w wr g F W t) : ∀ z ∈ F, w.heap.size ≤ z ∧ z < wr.heap.size := by
  obtain ⟨tb, tm, sb, sm, vb, Ft, Fs, Fv, h, rfl⟩ := h
  obtain ⟨n, hn, hnt⟩ := h.sg
  intro z hz
  simp only [List.mem_cons, List.mem_append] at hz
  rcases hz with e | e | e | e
  · subst e; exact ⟨h.lo.1, h.hd.lt⟩
  · exact ⟨h.lo.2.1 z e, h.te.lt z e⟩
  · exact ⟨h.lo.2.2.1 z e, hn.lt z e⟩
  · exact ⟨h.lo.2.2.2 z e, h.va.lt z e⟩
theorem WldX.mono {w wr : World} {g : Nat} {F : List Nat} {W : WS} {t t' : Nat} (h : WldX w wr g F W t) (ht : t ≤ t') : WldX w wr g F W t' := by
  obtain ⟨tb, tm, sb, sm, vb, Ft, Fs, Fv, h, rfl⟩ := h
  obtain ⟨n, hn, hnt⟩ := h.sg
  exact ⟨tb, tm, sb, sm, vb, Ft, Fs, Fv, ⟨h.hd, h.te, ⟨n, hn, by omega⟩, h.va, h.ok, ⟨by have := h.bd.1; omega, by have := h.bd.2.1; omega, fun d => by have := h.bd.2.2 d; omega⟩, h.ap, h.lo, h.c⟩, rfl⟩
theorem Wld.to {w wr w' : World} {g tb tm sb sm vb : Nat} {Ft Fs Fv : List Nat} {t : Nat} {W : WS} (h : Wld w wr g tb tm sb sm vb Ft Fs Fv t W) (c : Chg [] wr w') : Wld w w' g tb tm sb sm vb Ft Fs Fv t W := by
  obtain ⟨n, hn, hnt⟩ := h.sg
  exact ⟨h.hd.chg c (by simp), h.te.aside c (by simp), ⟨n, hn.aside c (by simp), hnt⟩, h.va.aside c (by simp), h.ok, h.bd, h.ap, h.lo, h.c.trans c⟩
/-- Its digests have turned. -/
theorem Wld.terms {w wr w' : World} {g tb tm sb sm vb : Nat} {Ft Fs Fv Ft' : List Nat} {t : Nat} {W : WS} (h : Wld w wr g tb tm sb sm vb Ft Fs Fv t W) {e : Env} (he : e.Ok) (k : Ter w' tb tm Ft' (dT (eIns W.T e))) (c : Chg Ft wr w') (r : Grw wr.heap.size Ft Ft') :
    Wld w w' g tb tm sb sm vb Ft' Fs Fv (t + 1) { W with T := eIns W.T e } := by
  obtain ⟨n, hn, hnt⟩ := h.sg
  have hlt := h.hd.lt
  have hsz : w.heap.size ≤ wr.heap.size := h.c.size
  refine ⟨h.hd.chg c h.ap.2.2.1, k, ⟨n, hn.aside c (fun z hz hm => (h.ap.1 z hz).1 hm), by omega⟩, h.va.aside c (fun z hz hm => (h.ap.1 z hz).2 hm), eIns_ok h.ok he, ⟨?_, by have := h.bd.2.1; show W.L.length ≤ _; omega, fun d => by have := h.bd.2.2 d; show (W.f d).length ≤ _; omega⟩, ⟨fun z hz => ?_, h.ap.2.1, fun hm => ?_, h.ap.2.2.2⟩, ⟨h.lo.1, fun z hz => ?_, h.lo.2.2⟩, h.c.trans' c (fun z hz => .inr (h.lo.2.1 z hz))⟩
  · have := h.bd.1; have := eIns_len W.T e; show (eIns W.T e).length ≤ _; omega
  · rcases r z hz with q | q
    · exact h.ap.1 z q
    · exact ⟨fun hm => by have := hn.lt z hm; omega, fun hm => by have := h.va.lt z hm; omega⟩
  · rcases r g hm with q | q
    · exact h.ap.2.2.1 q
    · omega
  · rcases r z hz with q | q
    · exact h.lo.2.1 z q
    · omega
/-- One part's blocks have grown. -/
theorem Grw.part {B g : Nat} {Ft Ft' X : List Nat} (r : Grw B Ft Ft') : Grw B (g :: (Ft ++ X)) (g :: (Ft' ++ X)) := fun z hz => by
  simp only [List.mem_cons, List.mem_append] at hz ⊢
  rcases hz with q | q | q
  · simp [q]
  · rcases r z q with q2 | q2
    · simp [q2]
    · exact .inr q2
  · simp [q]
theorem Chg.wr2 {wr W W' : World} {g : Nat} {F : List Nat} {l : List Int} (c : Chg [] wr W) (hg : wr.heap.size ≤ g) (h : Wri W g F l) (k : Chg F W W') : Chg [] wr W' :=
  c.trans' k (fun z hz => .inr (by have := h.lo z hz; omega))
set_option maxHeartbeats 4000000 in
theorem wDigC {w wr : World} {g tb tm sb sm vb : Nat} {Ft Fs Fv : List Nat} {W : WS} {t : Nat} (h : Wld w wr g tb tm sb sm vb Ft Fs Fv t W) (ht : t ≤ 1000000) (e : Env) (he : e.Ok) :
    Calls Try.prog 23 #[.pointer (some ⟨g, 0, none⟩), nv e] wr fun y w' => y = .returned (.int .i64 (ePos (eIns W.T e) e)) ∧ ∃ Ft', Wld w w' g tb tm sb sm vb Ft' Fs Fv (t + 1) { W with T := eIns W.T e } ∧ Chg Ft wr w' ∧ Grw wr.heap.size Ft Ft' := by
  have hkc := fun (w : World) (C : Array Value) (n c : Nat) => Lib.run_convert_bytes_const (P := Try.prog) w 126 5 C n c Try.underlying126 Try.underlying5
  have HH := Lib.hid h
  have hg0 := h.hd.lt
  have HE := Lib.hid he
  have hbx : Blk (wr.alloc (.cells #[.int .i64 e.client, .int .u64 e.nonce, .int .u64 e.fee, .int .i64 e.cipher] 32)) wr.heap.size 32 (nc e) := Blk.new wr (nc e) 32
  have cA : Chg [] wr (wr.alloc (.cells #[.int .i64 e.client, .int .u64 e.nonce, .int .u64 e.fee, .int .i64 e.cipher] 32)) := (Chg.refl _ _).alloc _
  have hsA : (wr.alloc (.cells #[.int .i64 e.client, .int .u64 e.nonce, .int .u64 e.fee, .int .i64 e.cipher] 32)).heap.size = wr.heap.size + 1 := by simp
  clear h he
  go_enter Try.func23, Try.ntmps23
  go_upto_region 1 with (fail)
  obtain ⟨b1, hb1⟩ : ∃ b, wr.heap.size = b := ⟨_, rfl⟩
  rw [hb1] at hbx hsA
  have HB1 := Lib.hid hb1
  simp only [hb1]
  have HA := Lib.hid cA
  clear hb1 cA
  generalize wr.alloc _ = w1 at *
  go_wp2_with fail
  refine (wNew w1).mono ?_
  rintro y w2 ⟨rfl, hw, cw⟩
  have hbx2 := hbx.chg cw (by simp)
  have hcw := cw.size
  have HW := Lib.hid hw
  have HC := Lib.hid (HA.out.trans cw)
  obtain ⟨gw, hgw⟩ : ∃ b, w1.heap.size = b := ⟨_, rfl⟩
  have hlw : b1 < gw := by omega
  have hlw2 : gw < w2.heap.size := by have := hw.lt; omega
  rw [hgw] at HW ⊢
  clear hw cw hbx hsA hgw hcw
  go_wp2_with fail
  have hcl : ∀ j u, (bys [101, 110, 118])[j]? = some u → (w2.alloc (.cells #[.int .u8 101, .int .u8 110, .int .u8 118] 5 (3, 4))).cell? ⟨w2.heap.size, j, none⟩ = some u := fun j u hj => by rw [World.cell?_alloc_mark]; simpa [bys] using hj
  have cB : Chg [] w2 (w2.alloc (.cells #[.int .u8 101, .int .u8 110, .int .u8 118] 5 (3, 4))) := (Chg.refl [] w2).alloc _
  have hbx := hbx2.chg cB (by simp)
  replace HC := Lib.hid (HC.out.trans cB)
  replace HW := Lib.hid (HW.out.to cB)
  clear hbx2 cB hkc
  generalize hga : w2.heap.size = ga at *
  clear hga
  generalize w2.alloc _ = w3 at *
  refine (wtextC HW.out ga 3 3 [101, 110, 118] rfl (by omega) (by show 0 < 800000000; omega) hcl (by simp; omega)).mono ?_
  rintro y w4 ⟨rfl, F4, hw4, c4, g4⟩
  replace hbx := hbx.chg c4 (by simp; omega)
  replace HC := Lib.hid (Chg.wr2 HC.out (by have := HB1.out; omega) HW.out c4)
  replace HW := Lib.hid hw4
  clear hw4 c4 g4 hcl
  have y0 := hbx.at (i := 0) rfl
  go_wp2_with fail
  refine (wint HW.out (e.client) (by show 11 < 900000000; omega)).mono ?_
  rintro y w4 ⟨rfl, F4, hw4, c4, g4⟩
  replace hbx := hbx.chg c4 (fun hm => by have := HW.out.lo _ hm; omega)
  replace HC := Lib.hid (Chg.wr2 HC.out (by have := HB1.out; omega) HW.out c4)
  replace HW := Lib.hid hw4
  clear hw4 c4 g4 y0
  have y1 := hbx.at (i := 1) rfl
  go_wp2_with fail
  refine (wnum HW.out (e.nonce) (HE.out.nonce) (by show 19 < 900000000; omega)).mono ?_
  rintro y w4 ⟨rfl, F4, hw4, c4, g4⟩
  replace hbx := hbx.chg c4 (fun hm => by have := HW.out.lo _ hm; omega)
  replace HC := Lib.hid (Chg.wr2 HC.out (by have := HB1.out; omega) HW.out c4)
  replace HW := Lib.hid hw4
  clear hw4 c4 g4 y1
  have y2 := hbx.at (i := 2) rfl
  go_wp2_with fail
  refine (wnum HW.out (e.fee) (HE.out.fee) (by show 27 < 900000000; omega)).mono ?_
  rintro y w4 ⟨rfl, F4, hw4, c4, g4⟩
  replace hbx := hbx.chg c4 (fun hm => by have := HW.out.lo _ hm; omega)
  replace HC := Lib.hid (Chg.wr2 HC.out (by have := HB1.out; omega) HW.out c4)
  replace HW := Lib.hid hw4
  clear hw4 c4 g4 y2
  have y3 := hbx.at (i := 3) rfl
  go_wp2_with fail
  refine (wint HW.out (e.cipher) (by show 35 < 900000000; omega)).mono ?_
  rintro y w4 ⟨rfl, F4, hw4, c4, g4⟩
  replace hbx := hbx.chg c4 (fun hm => by have := HW.out.lo _ hm; omega)
  replace HC := Lib.hid (Chg.wr2 HC.out (by have := HB1.out; omega) HW.out c4)
  replace HW := Lib.hid hw4
  clear hw4 c4 g4 y3
  have HW9 : Hid (Wri w4 gw F4 (enb e)) := HW
  have d0 := (HH.out.hd.chg HC.out (by simp)).at (i := 0) rfl
  clear HW hbx
  go_upto_region 7 with (fail)
  have HW8 := HW9.out.to ((Chg.refl [] w4).drew)
  have hC8 : Chg [] wr w4.drew := HC.out.drew
  have l43 : (enb e).length ≤ 1000000000 := by show 43 ≤ 1000000000; omega
  have l42 : (enb e).length ≤ 1000000 := by show 43 ≤ 1000000; omega
  have lne : enb e ≠ [] := by simp [enb, num8]
  have hTl : (dT W.T).length ≤ 1000000000 := by have := HH.out.bd.1; simp only [dT, List.length_map]; omega
  have hnf : ∀ z, w4.drew.heap.size ≤ z → z ∉ Ft := fun z hz hm => by have := HH.out.te.lt _ hm; have := hC8.size; omega
  go_region_held3 (fun w' => w'.cell? ⟨g, 0, none⟩ = some (.pointer (some ⟨tb, 0, none⟩))) (first | go_keep | exact q5 | exact q6)
    (first
      | ((go_at_call 71; (with_reducible refine (wbytes HW8 l43 lne).mono ?_); rintro y w5 ⟨gg, cp, rfl, hgg, hbe, c5⟩; have q5 := c5.cell d0 (by simp); have hC5 := hC8.trans c5; have hT5 := HH.out.te.aside hC5 (by simp)))
      | ((go_at_call 70; (with_reducible refine (tdig hT5 (enb_byt e) rfl l42 hTl hbe (hnf _ hgg)).mono ?_); rintro y w6 ⟨rfl, Ft', hT6, c6, g6⟩; have q6 := c6.cell q5 HH.out.ap.2.2.1)))
  all_goals
    go_wp2_with fail
    go_ret
    rw [dT_ins HH.out.ok HE.out] at hT6 ⊢
    exact ⟨by rw [dT_pos (eIns_ok HH.out.ok HE.out) HE.out]; rfl, _, (HH.out.to hC5).terms HE.out hT6 c6 g6, (hC5.mono (by simp)).trans c6, fun z hz => (g6 z hz).imp id (fun q => Nat.le_trans hC5.size q)⟩
theorem wDig {w wr : World} {g : Nat} {F : List Nat} {W : WS} {t : Nat} (h : WldX w wr g F W t) (ht : t ≤ 1000000) (e : Env) (he : e.Ok) :
    Calls Try.prog 23 #[.pointer (some ⟨g, 0, none⟩), nv e] wr fun y w' => y = .returned (.int .i64 (ePos (eIns W.T e) e)) ∧ ∃ F', WldX w w' g F' { W with T := eIns W.T e } (t + 1) ∧ Chg F wr w' ∧ Grw wr.heap.size F F' := by
  obtain ⟨tb, tm, sb, sm, vb, Ft, Fs, Fv, h, rfl⟩ := h
  refine (wDigC h ht e he).mono ?_
  rintro y w' ⟨rfl, Ft', h', c, r⟩
  exact ⟨rfl, _, ⟨tb, tm, sb, sm, vb, Ft', Fs, Fv, h', rfl⟩, c.mono (fun z hz => by simp [hz]), r.part⟩
end Go.Proofs.Yteabcpmpcbjicaa
