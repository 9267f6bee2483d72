
import Derived.Test.YteabcpmpcbjicaaEnve
namespace Go.Proofs.Yteabcpmpcbjicaa
set_option linter.unusedVariables false
set_option maxRecDepth 100000
open Go Go.Proofs Go.RowKit Go.Maps
attribute [local go_sem ↓] Go.wp_at_zero Go.wp_at_succ

set_option maxHeartbeats 1000000 in
theorem enNew (f : Int) (hf0 : 0 ≤ f) (hf : f ≤ 100) (w : World) : Calls Try.prog 15 #[.int .i64 f] w fun y w' => ∃ g F, y = .returned (.pointer (some ⟨g, 0, none⟩)) ∧ WldX w w' g F ⟨[], fun _ => [], f + 1, []⟩ 0 := by
  have hm : max f 0 = f := by omega
  have hm2 : min f 100 = f := by omega
  have wq : IntKind.i64.wrap (f + 1) = f + 1 := by simp [IntKind.wrap, IntKind.bits, IntKind.signed]; omega
  have HF := Lib.hid hf0
  go_enter Try.func15, Try.ntmps15
  go_wp2_with fail
  refine (tNew w).mono ?_
  rintro y w1 ⟨rfl, h1, c1, s1⟩
  have H1 := Lib.hid h1
  have S1 := Lib.hid s1
  have C1 := Lib.hid c1
  clear h1 s1 c1
  go_wp2_with fail
  refine (sNew w1).mono ?_
  rintro y w2 ⟨rfl, h2, c2, s2⟩
  have H2 := Lib.hid h2
  have S2 := Lib.hid s2
  have C2 := Lib.hid c2
  clear h2 s2 c2
  go_wp2_with fail
  refine (vNew w2 (f + 1) (by have := HF.out; omega)).mono ?_
  rintro y w3 ⟨rfl, h3, c3, s3⟩
  have H3 := Lib.hid h3
  have S3 := Lib.hid s3
  have C3 := Lib.hid c3
  clear h3 s3 c3
  go_wp2_with fail
  go_ret
  have e1 := S1.out
  have e2 := S2.out
  have e3 := S3.out
  have hb := Blk.new w3 [.pointer (some ⟨w.heap.size + 1, 0, none⟩), .pointer (some ⟨w1.heap.size + 1, 0, none⟩), .pointer (some ⟨w2.heap.size, 0, none⟩)] 119
  have cA : Chg [] w3 (w3.alloc (.cells #[.pointer (some ⟨w.heap.size + 1, 0, none⟩), .pointer (some ⟨w1.heap.size + 1, 0, none⟩), .pointer (some ⟨w2.heap.size, 0, none⟩)] 119)) := (Chg.refl _ _).alloc _
  refine ⟨w3.heap.size, _, rfl, w.heap.size + 1, w.heap.size, w1.heap.size + 1, w1.heap.size, w2.heap.size, [w.heap.size + 1, w.heap.size], [w1.heap.size + 1, w1.heap.size], [w2.heap.size], ⟨hb, ((H1.out.aside C2.out (by simp)).aside C3.out (by simp)).aside cA (by simp), ⟨0, ((H2.out.aside C3.out (by simp)).aside cA (by simp)), by omega⟩, H3.out.aside cA (by simp), by simp, by simp, ?_, ?_, ((C1.out.trans C2.out).trans C3.out).trans cA⟩, rfl⟩
  · refine ⟨fun z hz => ⟨fun hm => ?_, fun hm => ?_⟩, fun z hz hm => ?_, fun hm => ?_, fun hm => ?_, fun hm => ?_⟩ <;> simp only [List.mem_cons, List.not_mem_nil, or_false] at * <;> omega
  · refine ⟨by omega, fun z hz => ?_, fun z hz => ?_, fun z hz => ?_⟩ <;> simp only [List.mem_cons, List.not_mem_nil, or_false] at * <;> omega
/-- Whether an envelope is signed. -/
def sgnd (W : WS) (e : Env) : Bool := decide (1000 + e.client ∈ W.f (ePos (eIns W.T e) e))
def inR (e : Env) : Bool := decide (0 ≤ e.client) && decide (e.client ≤ 999)
theorem ePos_I {T : List Env} {e : Env} (h : T.length ≤ 1000000) : I (ePos T e) := by
  unfold ePos
  split
  · rename_i hm
    have := List.idxOf_lt_length_of_mem hm
    exact ⟨by omega, by omega⟩
  · exact ⟨by omega, by omega⟩
set_option maxHeartbeats 4000000 in
theorem enOk {w wr : World} {g : Nat} {F : List Nat} {W : WS} {t : Nat} (h : WldX w wr g F W t) (ht : t ≤ 900000) (e : Env) (he : e.Ok) (hr : inR e = true) (b : Bool) (hb : sgnd W e = b) :
    Calls Try.prog 59 #[.pointer (some ⟨g, 0, none⟩), nv e] wr fun y w' => y = .returned (.bool b) ∧ ∃ F', WldX w w' g F' { W with T := eIns W.T e } (t + 1) ∧ Chg F wr w' ∧ Grw wr.heap.size F F' := by
  unfold inR at hr
  simp only [Bool.and_eq_true, decide_eq_true_eq] at hr
  obtain ⟨r0, r1⟩ := hr
  have d0 : decide (0 ≤ e.client) = true := by simp; omega
  have d1 : decide (e.client ≤ 999) = true := by simp; omega
  have d0' : decide (e.client ≥ 0) = true := by simp; omega
  have wq : IntKind.i64.wrap (1000 + e.client) = 1000 + e.client := by simp [IntKind.wrap, IntKind.bits, IntKind.signed]; omega
  have hI : I (1000 + e.client) := ⟨by omega, by omega⟩
  have HB := Lib.hid hb
  have HI := Lib.hid hI
  have HX := Lib.hid h
  have HE := Lib.hid he
  obtain ⟨tb, tm, sb, sm, vb, Ft, Fs, Fv, h, rfl⟩ := h
  have g1 := h.hd.at (i := 1) rfl
  have HL := Lib.hid h.bd.1
  have hbx : Blk (wr.alloc (.cells #[.int .i64 e.client, .int .u64 e.nonce, .int .u64 e.fee, .int .i64 e.cipher] 32)) wr.heap.size 32 (nc e) := Blk.new wr (nc e) 32
  have cA : Chg [] wr (wr.alloc (.cells #[.int .i64 e.client, .int .u64 e.nonce, .int .u64 e.fee, .int .i64 e.cipher] 32)) := (Chg.refl _ _).alloc _
  have hlt : ∀ z ∈ g :: (Ft ++ (Fs ++ Fv)), z < wr.heap.size := fun z hz => (HX.out.lt z hz).2
  have HLT := Lib.hid hlt
  have HH := Lib.hid h
  clear h he hb hI hlt r0 r1
  go_enter Try.func59, Try.ntmps59
  go_upto_region 1 with (fail)
  obtain ⟨b1, hb1⟩ : ∃ b, wr.heap.size = b := ⟨_, rfl⟩
  rw [hb1] at hbx
  have HB1 := Lib.hid hb1
  simp only [hb1]
  have g1' := cA.cell g1 (by simp)
  have HA := Lib.hid cA
  clear hb1 cA g1
  generalize wr.alloc _ = w1 at *
  have y0 := hbx.at (i := 0) rfl
  have y1 := hbx.at (i := 1) rfl
  have y2 := hbx.at (i := 2) rfl
  have y3 := hbx.at (i := 3) rfl
  have hX1 := HH.out.to (HA.out.drew)
  have nb : ∀ z ∈ Ft, b1 ≠ z := fun z hm e => by have := HLT.out z (by simp [hm]); have := HB1.out; omega
  have hT8 : t ≤ 1000000 := by omega
  have hgt := HH.out.ap.2.2.1
  have nb2 : b1 ∉ Ft := fun hm => nb _ hm rfl
  have hIp := ePos_I (T := eIns W.T e) (e := e) (by have := HL.out; have := eIns_len W.T e; omega)
  go_region_held3 (fun w' => w'.cell? ⟨b1, 0, none⟩ = some (.int .i64 e.client) ∧ w'.cell? ⟨b1, 1, none⟩ = some (.int .u64 e.nonce) ∧ w'.cell? ⟨b1, 2, none⟩ = some (.int .u64 e.fee) ∧ w'.cell? ⟨b1, 3, none⟩ = some (.int .i64 e.cipher) ∧ w'.cell? ⟨g, 1, none⟩ = some (.pointer (some ⟨sb, 0, none⟩))) (first | go_keep | exact qS)
    (first
      | ((go_at_call 23; (with_reducible refine (wDigC hX1 hT8 e HE.out).mono ?_); rintro y w5 ⟨rfl, Ft', h5, c5, g5⟩; have qS := And.intro (c5.cell y0 nb2) (And.intro (c5.cell y1 nb2) (And.intro (c5.cell y2 nb2) (And.intro (c5.cell y3 nb2) (c5.cell g1' hgt)))); obtain ⟨n5, h5s, -⟩ := h5.sg))
      | ((go_at_call 106; (with_reducible refine (sHas h5s (1000 + e.client) (ePos (eIns W.T e) e) HI.out hIp).mono ?_); rintro y w6 ⟨rfl, rfl⟩)))
  all_goals
    go_wp2_with fail
    go_ret
    exact ⟨by have := HB.out; unfold sgnd at this; rw [← this]; rfl, _, ⟨tb, tm, sb, sm, vb, Ft', Fs, Fv, h5, rfl⟩, (HA.out.drew.mono (by simp)).trans (c5.mono (fun z hz => by simp [hz])), (fun z hz => (g5.part z hz).imp id (fun q => Nat.le_trans HA.out.drew.size q) : Grw wr.heap.size _ _)⟩
set_option maxHeartbeats 1000000 in
theorem tdigIn {w : World} {g mb : Nat} {F : List Nat} {T : List (List UInt8)} {ga n c : Nat} {l : List Int} (hin : ub l ∈ T) (h : Ter w g mb F T) (hb : Byt l) (hl : l.length = n) (hn : n ≤ 1000000) (hT : T.length ≤ 1000000000) (hbe : Beg w ga 5 (bys l)) (hga : ga ∉ F) :
    Calls Try.prog 70 #[.pointer (some ⟨g, 0, none⟩), .slice (some ⟨ga, 0, none⟩) n c] w fun e w' => e = .returned (.int .i64 (pos T (ub l))) ∧ Chg [] w w' := by
  obtain ⟨v, hd, ho, hv⟩ := h.hd
  have d0 := hd.at (i := 0) rfl
  have d1 := hd.at (i := 1) rfl
  have kc := fun k => conv_str (w := w.drewN k) (c := c) hb hl hbe
  have kl := fun k => (h.mp.drewN k).look l (by unfold maxLen; omega)
  obtain ⟨d, hdd⟩ : ∃ d, pos T (ub l) = d := ⟨_, rfl⟩
  rw [hdd] at kl
  have HDD := Lib.hid hdd
  have hd1 : (d == 0) = false := by have := (pos_pos hin).1; simp; omega
  clear hdd
  go_enter Try.func70, Try.ntmps70
  go_upto_region 1 with (fail)
  go_quiet (fail)
  go_wp2_with fail
  go_ret
  exact ⟨by rw [HDD.out]; rfl, (Chg.refl _ _).drewN _⟩
set_option maxHeartbeats 4000000 in
theorem wDigIn {w wr : World} {g tb tm sb sm vb : Nat} {Ft Fs Fv : List Nat} {W : WS} {t : Nat} (h : Wld w wr g tb tm sb sm vb Ft Fs Fv t W) (ht : t ≤ 1000000) (e : Env) (he : e.Ok) (hin : e ∈ W.T) :
    Calls Try.prog 23 #[.pointer (some ⟨g, 0, none⟩), nv e] wr fun y w' => y = .returned (.int .i64 (ePos W.T e)) ∧ Chg [] wr w' := by
  have hkc := fun (w : World) (C : Array Value) (n c : Nat) => Lib.run_convert_bytes_const (P := Try.prog) w 126 5 C n c Try.underlying126 Try.underlying5
  have HH := Lib.hid h
  have hg0 := h.hd.lt
  have HE := Lib.hid he
  have hbx : Blk (wr.alloc (.cells #[.int .i64 e.client, .int .u64 e.nonce, .int .u64 e.fee, .int .i64 e.cipher] 32)) wr.heap.size 32 (nc e) := Blk.new wr (nc e) 32
  have cA : Chg [] wr (wr.alloc (.cells #[.int .i64 e.client, .int .u64 e.nonce, .int .u64 e.fee, .int .i64 e.cipher] 32)) := (Chg.refl _ _).alloc _
  have hsA : (wr.alloc (.cells #[.int .i64 e.client, .int .u64 e.nonce, .int .u64 e.fee, .int .i64 e.cipher] 32)).heap.size = wr.heap.size + 1 := by simp
  have HIN := Lib.hid ((dT_mem h.ok he).2 hin)
  clear h he hin
  go_enter Try.func23, Try.ntmps23
  go_upto_region 1 with (fail)
  obtain ⟨b1, hb1⟩ : ∃ b, wr.heap.size = b := ⟨_, rfl⟩
  rw [hb1] at hbx hsA
  have HB1 := Lib.hid hb1
  simp only [hb1]
  have HA := Lib.hid cA
  clear hb1 cA
  generalize wr.alloc _ = w1 at *
  go_wp2_with fail
  refine (wNew w1).mono ?_
  rintro y w2 ⟨rfl, hw, cw⟩
  have hbx2 := hbx.chg cw (by simp)
  have hcw := cw.size
  have HW := Lib.hid hw
  have HC := Lib.hid (HA.out.trans cw)
  obtain ⟨gw, hgw⟩ : ∃ b, w1.heap.size = b := ⟨_, rfl⟩
  have hlw : b1 < gw := by omega
  have hlw2 : gw < w2.heap.size := by have := hw.lt; omega
  rw [hgw] at HW ⊢
  clear hw cw hbx hsA hgw hcw
  go_wp2_with fail
  have hcl : ∀ j u, (bys [101, 110, 118])[j]? = some u → (w2.alloc (.cells #[.int .u8 101, .int .u8 110, .int .u8 118] 5 (3, 4))).cell? ⟨w2.heap.size, j, none⟩ = some u := fun j u hj => by rw [World.cell?_alloc_mark]; simpa [bys] using hj
  have cB : Chg [] w2 (w2.alloc (.cells #[.int .u8 101, .int .u8 110, .int .u8 118] 5 (3, 4))) := (Chg.refl [] w2).alloc _
  have hbx := hbx2.chg cB (by simp)
  replace HC := Lib.hid (HC.out.trans cB)
  replace HW := Lib.hid (HW.out.to cB)
  clear hbx2 cB hkc
  generalize hga : w2.heap.size = ga at *
  clear hga
  generalize w2.alloc _ = w3 at *
  refine (wtextC HW.out ga 3 3 [101, 110, 118] rfl (by omega) (by show 0 < 800000000; omega) hcl (by simp; omega)).mono ?_
  rintro y w4 ⟨rfl, F4, hw4, c4, g4⟩
  replace hbx := hbx.chg c4 (by simp; omega)
  replace HC := Lib.hid (Chg.wr2 HC.out (by have := HB1.out; omega) HW.out c4)
  replace HW := Lib.hid hw4
  clear hw4 c4 g4 hcl
  have y0 := hbx.at (i := 0) rfl
  go_wp2_with fail
  refine (wint HW.out (e.client) (by show 11 < 900000000; omega)).mono ?_
  rintro y w4 ⟨rfl, F4, hw4, c4, g4⟩
  replace hbx := hbx.chg c4 (fun hm => by have := HW.out.lo _ hm; omega)
  replace HC := Lib.hid (Chg.wr2 HC.out (by have := HB1.out; omega) HW.out c4)
  replace HW := Lib.hid hw4
  clear hw4 c4 g4 y0
  have y1 := hbx.at (i := 1) rfl
  go_wp2_with fail
  refine (wnum HW.out (e.nonce) (HE.out.nonce) (by show 19 < 900000000; omega)).mono ?_
  rintro y w4 ⟨rfl, F4, hw4, c4, g4⟩
  replace hbx := hbx.chg c4 (fun hm => by have := HW.out.lo _ hm; omega)
  replace HC := Lib.hid (Chg.wr2 HC.out (by have := HB1.out; omega) HW.out c4)
  replace HW := Lib.hid hw4
  clear hw4 c4 g4 y1
  have y2 := hbx.at (i := 2) rfl
  go_wp2_with fail
  refine (wnum HW.out (e.fee) (HE.out.fee) (by show 27 < 900000000; omega)).mono ?_
  rintro y w4 ⟨rfl, F4, hw4, c4, g4⟩
  replace hbx := hbx.chg c4 (fun hm => by have := HW.out.lo _ hm; omega)
  replace HC := Lib.hid (Chg.wr2 HC.out (by have := HB1.out; omega) HW.out c4)
  replace HW := Lib.hid hw4
  clear hw4 c4 g4 y2
  have y3 := hbx.at (i := 3) rfl
  go_wp2_with fail
  refine (wint HW.out (e.cipher) (by show 35 < 900000000; omega)).mono ?_
  rintro y w4 ⟨rfl, F4, hw4, c4, g4⟩
  replace hbx := hbx.chg c4 (fun hm => by have := HW.out.lo _ hm; omega)
  replace HC := Lib.hid (Chg.wr2 HC.out (by have := HB1.out; omega) HW.out c4)
  replace HW := Lib.hid hw4
  clear hw4 c4 g4 y3
  have HW9 : Hid (Wri w4 gw F4 (enb e)) := HW
  have d0 := (HH.out.hd.chg HC.out (by simp)).at (i := 0) rfl
  clear HW hbx
  go_upto_region 7 with (fail)
  have HW8 := HW9.out.to ((Chg.refl [] w4).drew)
  have hC8 : Chg [] wr w4.drew := HC.out.drew
  have l43 : (enb e).length ≤ 1000000000 := by show 43 ≤ 1000000000; omega
  have l42 : (enb e).length ≤ 1000000 := by show 43 ≤ 1000000; omega
  have lne : enb e ≠ [] := by simp [enb, num8]
  have hTl : (dT W.T).length ≤ 1000000000 := by have := HH.out.bd.1; simp only [dT, List.length_map]; omega
  have hnf : ∀ z, w4.drew.heap.size ≤ z → z ∉ Ft := fun z hz hm => by have := HH.out.te.lt _ hm; have := hC8.size; omega
  go_region_held3 (fun w' => w'.cell? ⟨g, 0, none⟩ = some (.pointer (some ⟨tb, 0, none⟩))) (first | go_keep | exact q5 | exact q6)
    (first
      | ((go_at_call 71; (with_reducible refine (wbytes HW8 l43 lne).mono ?_); rintro y w5 ⟨gg, cp, rfl, hgg, hbe, c5⟩; have q5 := c5.cell d0 (by simp); have hC5 := hC8.trans c5; have hT5 := HH.out.te.aside hC5 (by simp)))
      | ((go_at_call 70; (with_reducible refine (tdigIn HIN.out hT5 (enb_byt e) rfl l42 hTl hbe (hnf _ hgg)).mono ?_); rintro y w6 ⟨rfl, c6⟩; have q6 := c6.cell q5 (by simp))))
  all_goals
    go_wp2_with fail
    go_ret
    exact ⟨by rw [dT_pos HH.out.ok HE.out]; rfl, hC5.trans c6⟩
set_option maxHeartbeats 4000000 in
theorem enOkIn {w wr : World} {g : Nat} {F : List Nat} {W : WS} {t : Nat} (h : WldX w wr g F W t) (ht : t ≤ 900000) (e : Env) (he : e.Ok) (hr : inR e = true) (b : Bool) (hb : sgnd W e = b) (hin : e ∈ W.T) :
    Calls Try.prog 59 #[.pointer (some ⟨g, 0, none⟩), nv e] wr fun y w' => y = .returned (.bool b) ∧ Chg [] wr w' := by
  unfold inR at hr
  simp only [Bool.and_eq_true, decide_eq_true_eq] at hr
  obtain ⟨r0, r1⟩ := hr
  have d0 : decide (0 ≤ e.client) = true := by simp; omega
  have d1 : decide (e.client ≤ 999) = true := by simp; omega
  have d0' : decide (e.client ≥ 0) = true := by simp; omega
  have wq : IntKind.i64.wrap (1000 + e.client) = 1000 + e.client := by simp [IntKind.wrap, IntKind.bits, IntKind.signed]; omega
  have hI : I (1000 + e.client) := ⟨by omega, by omega⟩
  have heI : eIns W.T e = W.T := by unfold eIns; rw [if_pos hin]
  have HB : Hid (decide (1000 + e.client ∈ W.f (ePos W.T e)) = b) := by have := hb; unfold sgnd at this; rw [heI] at this; exact this
  have HIN := Lib.hid hin
  have HI := Lib.hid hI
  have HX := Lib.hid h
  have HE := Lib.hid he
  obtain ⟨tb, tm, sb, sm, vb, Ft, Fs, Fv, h, rfl⟩ := h
  have g1 := h.hd.at (i := 1) rfl
  have HL := Lib.hid h.bd.1
  have hbx : Blk (wr.alloc (.cells #[.int .i64 e.client, .int .u64 e.nonce, .int .u64 e.fee, .int .i64 e.cipher] 32)) wr.heap.size 32 (nc e) := Blk.new wr (nc e) 32
  have cA : Chg [] wr (wr.alloc (.cells #[.int .i64 e.client, .int .u64 e.nonce, .int .u64 e.fee, .int .i64 e.cipher] 32)) := (Chg.refl _ _).alloc _
  have hlt : ∀ z ∈ g :: (Ft ++ (Fs ++ Fv)), z < wr.heap.size := fun z hz => (HX.out.lt z hz).2
  have HLT := Lib.hid hlt
  have HH := Lib.hid h
  clear h he hb hI hin heI hlt r0 r1
  go_enter Try.func59, Try.ntmps59
  go_upto_region 1 with (fail)
  obtain ⟨b1, hb1⟩ : ∃ b, wr.heap.size = b := ⟨_, rfl⟩
  rw [hb1] at hbx
  have HB1 := Lib.hid hb1
  simp only [hb1]
  have g1' := cA.cell g1 (by simp)
  have HA := Lib.hid cA
  clear hb1 cA g1
  generalize wr.alloc _ = w1 at *
  have y0 := hbx.at (i := 0) rfl
  have y1 := hbx.at (i := 1) rfl
  have y2 := hbx.at (i := 2) rfl
  have y3 := hbx.at (i := 3) rfl
  have hX1 := HH.out.to (HA.out.drew)
  have nb : ∀ z ∈ Ft, b1 ≠ z := fun z hm e => by have := HLT.out z (by simp [hm]); have := HB1.out; omega
  have hT8 : t ≤ 1000000 := by omega
  have hgt := HH.out.ap.2.2.1
  have nb2 : b1 ∉ Ft := fun hm => nb _ hm rfl
  have hIp := ePos_I (T := W.T) (e := e) (by have := HL.out; omega)
  go_region_held3 (fun w' => w'.cell? ⟨b1, 0, none⟩ = some (.int .i64 e.client) ∧ w'.cell? ⟨b1, 1, none⟩ = some (.int .u64 e.nonce) ∧ w'.cell? ⟨b1, 2, none⟩ = some (.int .u64 e.fee) ∧ w'.cell? ⟨b1, 3, none⟩ = some (.int .i64 e.cipher) ∧ w'.cell? ⟨g, 1, none⟩ = some (.pointer (some ⟨sb, 0, none⟩))) (first | go_keep | exact qS)
    (first
      | ((go_at_call 23; (with_reducible refine (wDigIn hX1 hT8 e HE.out HIN.out).mono ?_); rintro y w5 ⟨rfl, c5⟩; have qS := And.intro (c5.cell y0 (by simp)) (And.intro (c5.cell y1 (by simp)) (And.intro (c5.cell y2 (by simp)) (And.intro (c5.cell y3 (by simp)) (c5.cell g1' (by simp))))); obtain ⟨n5, h5s0, -⟩ := hX1.sg; have h5s := h5s0.aside c5 (by simp)))
      | ((go_at_call 106; (with_reducible refine (sHas h5s (1000 + e.client) (ePos W.T e) HI.out hIp).mono ?_); rintro y w6 ⟨rfl, rfl⟩)))
  all_goals
    go_wp2_with fail
    go_ret
    exact ⟨by rw [← HB.out]; rfl, HA.out.drew.trans c5⟩
theorem Wld.vault {w wr w' : World} {g tb tm sb sm vb : Nat} {Ft Fs Fv Fv' : List Nat} {t : Nat} {W : WS} (h : Wld w wr g tb tm sb sm vb Ft Fs Fv t W) {L' : List Cph} (k : Vlt w' vb Fv' W.need L') (hL : L'.length ≤ t + 1) (c : Chg Fv wr w') (r : Grw wr.heap.size Fv Fv') :
    Wld w w' g tb tm sb sm vb Ft Fs Fv' (t + 1) { W with L := L' } := by
  obtain ⟨n, hn, hnt⟩ := h.sg
  have hlt := h.hd.lt
  have hsz : w.heap.size ≤ wr.heap.size := h.c.size
  refine ⟨h.hd.chg c h.ap.2.2.2.2, h.te.aside c (fun z hz hm => (h.ap.1 z hm).2 hz), ⟨n, hn.aside c (fun z hz hm => h.ap.2.1 z hm hz), by omega⟩, k, h.ok, ⟨by have := h.bd.1; show W.T.length ≤ _; omega, hL, fun d => by have := h.bd.2.2 d; show (W.f d).length ≤ _; omega⟩, ⟨fun z hz => ⟨(h.ap.1 z hz).1, fun hm => ?_⟩, fun z hz hm => ?_, h.ap.2.2.1, h.ap.2.2.2.1, fun hm => ?_⟩, ⟨h.lo.1, h.lo.2.1, h.lo.2.2.1, fun z hz => ?_⟩, h.c.trans' c (fun z hz => .inr (h.lo.2.2.2 z hz))⟩
  · rcases r z hm with q | q
    · exact (h.ap.1 z hz).2 q
    · have := h.te.lt z hz; omega
  · rcases r z hm with q | q
    · exact h.ap.2.1 z hz q
    · have := hn.lt z hz; omega
  · rcases r g hm with q | q
    · exact h.ap.2.2.2.2 q
    · omega
  · rcases r z hz with q | q
    · exact h.lo.2.2.2 z q
    · omega
theorem Wld.signs {w wr w' : World} {g tb tm sb sm vb n' : Nat} {Ft Fs Fv Fs' : List Nat} {t : Nat} {W : WS} (h : Wld w wr g tb tm sb sm vb Ft Fs Fv t W) {f' : Int → List Int} (k : Sgn w' sb sm Fs' n' f') (hn' : n' ≤ t + 1) (hf : ∀ d, (f' d).length ≤ t + 1) (c : Chg Fs wr w') (r : Grw wr.heap.size Fs Fs') :
    Wld w w' g tb tm sb sm vb Ft Fs' Fv (t + 1) { W with f := f' } := by
  obtain ⟨n, hn, hnt⟩ := h.sg
  have hlt := h.hd.lt
  have hsz : w.heap.size ≤ wr.heap.size := h.c.size
  refine ⟨h.hd.chg c h.ap.2.2.2.1, h.te.aside c (fun z hz hm => (h.ap.1 z hm).1 hz), ⟨n', k, hn'⟩, h.va.aside c (fun z hz hm => h.ap.2.1 z hz hm), h.ok, ⟨by have := h.bd.1; show W.T.length ≤ _; omega, by have := h.bd.2.1; show W.L.length ≤ _; omega, hf⟩, ⟨fun z hz => ⟨fun hm => ?_, (h.ap.1 z hz).2⟩, fun z hz hm => ?_, h.ap.2.2.1, fun hm => ?_, h.ap.2.2.2.2⟩, ⟨h.lo.1, h.lo.2.1, fun z hz => ?_, h.lo.2.2.2⟩, h.c.trans' c (fun z hz => .inr (h.lo.2.2.1 z hz))⟩
  · rcases r z hm with q | q
    · exact (h.ap.1 z hz).1 q
    · have := h.te.lt z hz; omega
  · rcases r z hz with q | q
    · exact h.ap.2.1 z q hm
    · have := h.va.lt z hm; omega
  · rcases r g hm with q | q
    · exact h.ap.2.2.2.1 q
    · omega
  · rcases r z hz with q | q
    · exact h.lo.2.2.1 z q
    · omega
theorem updL_len {f : Int → List Int} {d who : Int} {t : Nat} (h : ∀ x, (f x).length ≤ t) : ∀ x, (updL f d who x).length ≤ t + 1 := fun x => by
  unfold updL sadd
  have := h x
  split
  · split
    · omega
    · simp; omega
  · omega
/-- The world behind the making of an envelope. -/
def mkW (W : WS) (e : Env) (sb : Nat) : WS := ⟨eIns W.T e, updL W.f (ePos (eIns W.T e) e) (1000 + e.client), W.need, W.L ++ [⟨e.client, [], [], none, 0, sb⟩]⟩
set_option maxHeartbeats 4000000 in
theorem enMake {w wr : World} {g : Nat} {F : List Nat} {W : WS} {t : Nat} (h : WldX w wr g F W t) (ht : t ≤ 900000) (c n q : Int) (hc0 : 0 ≤ c) (hc1 : c ≤ 999) (hn : U n) (hq : U q) (e : Env) (hE : e = ⟨c, n, q, (W.L.length : Int) + 1⟩) :
    Calls Try.prog 18 #[.pointer (some ⟨g, 0, none⟩), .int .i64 c, .int .u64 n, .int .u64 q, .slice none 0 0] wr fun y w' => y = .returned (nv e) ∧ ∃ F' sb, WldX w w' g F' (mkW W e sb) (t + 3) ∧ Chg F wr w' ∧ Grw wr.heap.size F F' := by
  have d0 : decide (c < 0) = false := by simp; omega
  have d1 : decide (c > 999) = false := by simp; omega
  have d1' : decide (999 < c) = false := by simp; omega
  have wq : IntKind.i64.wrap (1000 + c) = 1000 + c := by simp [IntKind.wrap, IntKind.bits, IntKind.signed]; omega
  have HI : Hid (I (1000 + c)) := ⟨by omega, by omega⟩
  obtain ⟨tb, tm, sb, sm, vb, Ft, Fs, Fv, h, rfl⟩ := h
  have hbL := h.bd.2.1
  have HEO : Hid e.Ok := by rw [hE]; exact ⟨⟨by show -9223372036854775808 ≤ c; omega, by show c ≤ _; omega⟩, hn, hq, ⟨by show -9223372036854775808 ≤ (W.L.length : Int) + 1; omega, by show (W.L.length : Int) + 1 ≤ _; omega⟩⟩
  have HH := Lib.hid h
  obtain ⟨m, hm⟩ : ∃ m : Int, (W.L.length : Int) + 1 = m := ⟨_, rfl⟩
  rw [hm] at hE
  have HM := Lib.hid hm
  subst hE
  have hz0 : Blk (wr.alloc (.cells #[.int .i64 0, .int .u64 0, .int .u64 0, .int .i64 0] 32)) wr.heap.size 32 [.int .i64 0, .int .u64 0, .int .u64 0, .int .i64 0] := Blk.new _ _ _
  have cA : Chg [] wr (wr.alloc (.cells #[.int .i64 0, .int .u64 0, .int .u64 0, .int .i64 0] 32)) := (Chg.refl _ _).alloc _
  clear h hm hc0 hc1 hn hq
  go_enter Try.func18, Try.ntmps18
  go_upto_region 1 with (fail)
  obtain ⟨b0, hb0⟩ : ∃ b, wr.heap.size = b := ⟨_, rfl⟩
  rw [hb0] at hz0
  have HB0 := Lib.hid hb0
  simp only [hb0]
  have hl0 := hz0.lt
  have g2 := (HH.out.hd.chg cA (by simp)).at (i := 2) rfl
  have HA := Lib.hid cA
  clear hb0 cA
  generalize wr.alloc _ = w1 at *
  go_wp2_with fail
  have hW1 := HH.out.to HA.out
  refine (vSeal hW1.va c (by omega)).mono ?_
  rw [HM.out]
  rintro y w2 ⟨rfl, Fv2, sbn, hv2, c2, r2⟩
  have hW2 := hW1.vault hv2 (by simp; omega) c2 r2
  have hn0 : ∀ z ∈ Ft ++ (Fs ++ Fv), b0 ≠ z ∧ g ≠ b0 := fun z hz => by
    have h1 := HB0.out
    have h2 := HH.out.hd.lt
    obtain ⟨ns, hsn, -⟩ := HH.out.sg
    simp only [List.mem_append] at hz
    rcases hz with q | q | q
    · have := HH.out.te.lt z q; omega
    · have := hsn.lt z q; omega
    · have := HH.out.va.lt z q; omega
  have hz2 := hz0.chg c2 (fun hm => (hn0 _ (by simp [hm])).1 rfl)
  have hv2n : Hid (b0 ∉ Fv2) := fun hm => by
    rcases r2 b0 hm with q | q
    · exact (hn0 b0 (by simp [q])).1 rfl
    · omega
  have hs2 := c2.size
  have hbx : Blk (w2.alloc (.cells #[.int .i64 c, .int .u64 n, .int .u64 q, .int .i64 m] 32)) w2.heap.size 32 [.int .i64 c, .int .u64 n, .int .u64 q, .int .i64 m] := Blk.new _ _ _
  have cB : Chg [] w2 (w2.alloc (.cells #[.int .i64 c, .int .u64 n, .int .u64 q, .int .i64 m] 32)) := (Chg.refl _ _).alloc _
  have hW3 := hW2.to cB
  have HZ := Lib.hid (hz2.chg cB (by simp))
  have hr2 : ∀ z ∈ Fv2, z < w2.heap.size := hv2.lt
  have HRL := Lib.hid hr2
  have HC2 := Lib.hid (((HA.out.mono (by simp) : Chg Fv wr w1).trans c2).trans (cB.mono (by simp)))
  have HR2 : Hid (Grw wr.heap.size Fv Fv2) := fun z hz => (r2 z hz).imp id (fun q => Nat.le_trans HA.out.size q)
  clear hW1 hv2 c2 r2 hW2 hz2 cB hr2 hz0 g2
  go_upto_region 4 with (fail)
  obtain ⟨b1, hb1⟩ : ∃ b, w2.heap.size = b := ⟨_, rfl⟩
  rw [hb1] at hbx hs2 HRL
  simp only [hb1]
  have hb01 : b0 < b1 := by omega
  clear hb1 hs2
  generalize w2.alloc _ = w3 at *
  have y0 := hbx.at (i := 0) rfl
  have y1 := hbx.at (i := 1) rfl
  have y2 := hbx.at (i := 2) rfl
  have y3 := hbx.at (i := 3) rfl
  have g1 := hW3.hd.at (i := 1) rfl
  have hW3d := hW3.to ((Chg.refl [] w3).drew)
  have hT8 : t + 1 ≤ 1000000 := by omega
  have hgt := HH.out.ap.2.2.1
  have hgs := HH.out.ap.2.2.2.1
  have hlF : ∀ z ∈ Ft ++ Fs, z < b0 := fun z hz => by
    have h1 := HB0.out
    obtain ⟨ns, hsn, -⟩ := HH.out.sg
    rcases List.mem_append.1 hz with q | q
    · have := HH.out.te.lt z q; omega
    · have := hsn.lt z q; omega
  have nb1 : b1 ∉ Ft := fun hm => by have := hlF b1 (by simp [hm]); omega
  have nb2 : b1 ∉ Fs := fun hm => by have := hlF b1 (by simp [hm]); omega
  have hTl := HH.out.bd.1
  have hfl := HH.out.bd.2.2
  have hIp := ePos_I (T := eIns W.T ⟨c, n, q, m⟩) (e := ⟨c, n, q, m⟩) (by have := eIns_len W.T ⟨c, n, q, m⟩; omega)
  have hfl2 : (W.f (ePos (eIns W.T ⟨c, n, q, m⟩) ⟨c, n, q, m⟩)).length ≤ 1000000000 := by have := hfl (ePos (eIns W.T ⟨c, n, q, m⟩) ⟨c, n, q, m⟩); omega
  have HFL := Lib.hid hfl
  clear hfl hTl
  go_region_held3 (fun w' => w'.cell? ⟨b1, 0, none⟩ = some (.int .i64 c) ∧ w'.cell? ⟨b1, 1, none⟩ = some (.int .u64 n) ∧ w'.cell? ⟨b1, 2, none⟩ = some (.int .u64 q) ∧ w'.cell? ⟨b1, 3, none⟩ = some (.int .i64 m) ∧ w'.cell? ⟨g, 1, none⟩ = some (.pointer (some ⟨sb, 0, none⟩))) (first | go_keep | exact qS | exact qS2)
    (first
      | ((go_at_call 23; (with_reducible refine (wDigC hW3d hT8 ⟨c, n, q, m⟩ HEO.out).mono ?_); rintro y w5 ⟨rfl, Ft', h5, c5, g5⟩; have qS := And.intro (c5.cell y0 nb1) (And.intro (c5.cell y1 nb1) (And.intro (c5.cell y2 nb1) (And.intro (c5.cell y3 nb1) (c5.cell g1 hgt)))); obtain ⟨n5, h5s, h5n⟩ := h5.sg; have h5n2 : n5 ≤ 1000000000 := by omega))
      | ((go_at_call 58; (with_reducible refine (sSign h5s (1000 + c) (ePos (eIns W.T ⟨c, n, q, m⟩) ⟨c, n, q, m⟩) HI.out hIp h5n2 hfl2).mono ?_); rintro y w6 ⟨rfl, Fs', h6, c6, g6⟩; have qS2 := And.intro (c6.cell qS.1 nb2) (And.intro (c6.cell qS.2.1 nb2) (And.intro (c6.cell qS.2.2.1 nb2) (And.intro (c6.cell qS.2.2.2.1 nb2) (c6.cell qS.2.2.2.2 hgs)))))))
  all_goals
    have hW6 := h5.signs h6 (by omega) (fun d => Nat.le_trans (updL_len HFL.out d) (by omega)) c6 g6
    have nz1 : b0 ∉ Ft := fun hm => by have := hlF b0 (by simp [hm]); omega
    have nz2 : b0 ∉ Fs := fun hm => by have := hlF b0 (by simp [hm]); omega
    have hZ6 := ((HZ.out.drew).chg c5 nz1).chg c6 nz2
    have z0 := hZ6.at (i := 0) rfl
    have z1 := hZ6.at (i := 1) rfl
    have z2 := hZ6.at (i := 2) rfl
    have z3 := hZ6.at (i := 3) rfl
    have f0 := hZ6.free 0
    have f1 := hZ6.free 1
    have f2 := hZ6.free 2
    have f3 := hZ6.free 3
    obtain ⟨q0, q1, q2, q3, -⟩ := qS2
    have cS : Chg [b0] w6 ((((w6.setCell ⟨b0, 0, none⟩ (.int .i64 c)).setCell ⟨b0, 1, none⟩ (.int .u64 n)).setCell ⟨b0, 2, none⟩ (.int .u64 q)).setCell ⟨b0, 3, none⟩ (.int .i64 m)) := ((((Chg.refl [b0] w6).setCell _ _ (.inl (by simp))).setCell _ _ (.inl (by simp))).setCell _ _ (.inl (by simp))).setCell _ _ (.inl (by simp))
    have hbw := HB0.out
    have hl3 : b0 < w3.drew.heap.size := HZ.out.lt
    have hgb : g < b0 := by have := HH.out.hd.lt; omega
    have nF : b0 ∉ g :: (Ft' ++ (Fs' ++ Fv2)) := fun hm => by
      simp only [List.mem_cons, List.mem_append] at hm
      rcases hm with e | e | e | e
      · omega
      · rcases g5 b0 e with h | h
        · exact nz1 h
        · omega
      · rcases g6 b0 e with h | h
        · exact nz2 h
        · have := c5.size; omega
      · rcases HR2.out b0 e with h | h
        · have := HH.out.va.lt b0 h; omega
        · exact absurd e (hv2n.out)
    have hX : WldX w w6 g (g :: (Ft' ++ (Fs' ++ Fv2))) (mkW W ⟨c, n, q, m⟩ sbn) (t + 3) := ⟨tb, tm, sb, sm, vb, Ft', Fs', Fv2, hW6, rfl⟩
    have hX2 := hX.aside cS (fun z hz => by simp at hz; subst hz; exact ⟨nF, by have := HH.out.c.size; omega⟩)
    have hCh : Chg (g :: (Ft ++ (Fs ++ Fv))) wr w6 := (((HC2.out.drew).mono (fun z hz => by simp [hz])).trans (c5.mono (fun z hz => by simp [hz]))).trans (c6.mono (fun z hz => by simp [hz]))
    have hCh2 := hCh.trans' cS (fun z hz => .inr (by simp at hz; omega))
    have hGr : Grw wr.heap.size (g :: (Ft ++ (Fs ++ Fv))) (g :: (Ft' ++ (Fs' ++ Fv2))) := fun z hz => by
      have hs3 : wr.heap.size ≤ w3.drew.heap.size := HC2.out.drew.size
      have hs5 := c5.size
      simp only [List.mem_cons, List.mem_append] at hz ⊢
      rcases hz with e | e | e | e
      · simp [e]
      · rcases g5 z e with h | h
        · simp [h]
        · right; omega
      · rcases g6 z e with h | h
        · simp [h]
        · right; omega
      · rcases HR2.out z e with h | h
        · simp [h]
        · exact .inr h
    clear hW3 hW6 hX hCh h5 h6
    go_wp2_with fail
    exact bodyPost_ret (v := nv ⟨c, n, q, m⟩) (by simp [results, Try.results18, go_sem, z0, z1, z2, z3]) rfl ⟨rfl, _, sbn, hX2, hCh2, hGr⟩
end Go.Proofs.Yteabcpmpcbjicaa
