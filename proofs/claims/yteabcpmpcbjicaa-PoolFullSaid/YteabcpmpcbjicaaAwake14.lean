
import Derived.Test.YteabcpmpcbjicaaPool9
namespace Go.Proofs.Yteabcpmpcbjicaa
set_option linter.unusedVariables false
set_option maxRecDepth 100000
open Go Go.Proofs Go.RowKit Go.Maps
attribute [local go_sem ↓] Go.wp_at_zero Go.wp_at_succ

theorem LedX.rebase {w w1 wr : World} {l n : Nat} {F : List Nat} {S : LS} {t : Nat} (h : LedX w1 wr l n F S t) (c : Chg [] w w1) : LedX w wr l n F S t := by
  obtain ⟨ab, s, fb, mb, x, kb, ns, F0, m, h, e0, e1, e2⟩ := h
  have hs := c.size
  exact ⟨ab, s, fb, mb, x, kb, ns, F0, m, ⟨h.hd, ⟨h.ex.e, h.ex.a, ⟨h.ex.b.bk, c.trans h.ex.b.c, fun z hz => by have := h.ex.b.lo z hz; omega⟩, h.ex.ne, ⟨by have := h.ex.lo.1; omega, by have := h.ex.lo.2.1; omega, by have := h.ex.lo.2.2; omega⟩, h.ex.ok⟩, h.fe, h.nx, h.nl, h.nu, h.ug, h.ne, fun z hz => ⟨(h.off z hz).1, (h.off z hz).2.1, (h.off z hz).2.2.1, (h.off z hz).2.2.2.1, by have := (h.off z hz).2.2.2.2; omega⟩⟩, e0, e1, e2⟩
/-- A world, a ledger and a pool at first. -/
theorem PX.start {w w1 w2 w3 : World} {g l nl : Nat} {FE FL : List Nat} {W : WS} {S : LS} {m : Int} {t tl : Nat} (h1 : WldX w w1 g FE W t) (h2 : LedX w1 w2 l nl FL S tl) (h3 : PoM w3 g w2.heap.size [w2.heap.size] m []) (c3 : Chg [] w2 w3) : PX w w3 g l w2.heap.size nl FE FL [w2.heap.size] W S m [] t tl := by
  have c2 := h2.c
  refine ⟨(h1.to c2).to c3, ((h2.rebase h1.c).to c3), h3, fun z hz => ⟨fun hm => ?_, fun hm => ?_⟩, fun z hz hm => ?_, fun z hz => ?_⟩
  · have := (h1.lt z hz).2; have := (h2.lt z hm).1; omega
  · have := (h1.lt z hz).2; have := c2.size; simp at hm; omega
  · have := (h2.lt z hz).2; simp at hm; omega
  · have := h1.c.size; have := c2.size; simp at hz; omega
def xa : Env := ⟨0, 1, 5, 1⟩
def xb : Env := ⟨0, 0, 6, 2⟩
def xc : Env := ⟨1, 0, 9, 3⟩
def xd : Env := ⟨1, 16, 9, 4⟩
def W0 : WS := ⟨[], fun _ => [], 2, []⟩
theorem xok : xa.Ok ∧ xb.Ok ∧ xc.Ok ∧ xd.Ok ∧ Env.zero.Ok := by
  refine ⟨⟨?_, ?_, ?_, ?_⟩, ⟨?_, ?_, ?_, ?_⟩, ⟨?_, ?_, ?_, ?_⟩, ⟨?_, ?_, ?_, ?_⟩, ⟨?_, ?_, ?_, ?_⟩⟩ <;> exact ⟨by decide, by decide⟩
theorem cells8 {w : World} {b b' : Nat} {e f : Env} (h : Blk w b 32 (nc e)) (k : Blk w b' 32 (nc f)) : w.cell? ⟨b, 0, none⟩ = some (.int .i64 e.client) ∧ w.cell? ⟨b, 1, none⟩ = some (.int .u64 e.nonce) ∧ w.cell? ⟨b, 2, none⟩ = some (.int .u64 e.fee) ∧ w.cell? ⟨b, 3, none⟩ = some (.int .i64 e.cipher) ∧ w.cell? ⟨b', 0, none⟩ = some (.int .i64 f.client) ∧ w.cell? ⟨b', 1, none⟩ = some (.int .u64 f.nonce) ∧ w.cell? ⟨b', 2, none⟩ = some (.int .u64 f.fee) ∧ w.cell? ⟨b', 3, none⟩ = some (.int .i64 f.cipher) :=
  ⟨h.at (i := 0) rfl, h.at (i := 1) rfl, h.at (i := 2) rfl, h.at (i := 3) rfl, k.at (i := 0) rfl, k.at (i := 1) rfl, k.at (i := 2) rfl, k.at (i := 3) rfl⟩
/-- Nothing of it lies from b on, three blocks. -/
def Out (b : Nat) (F : List Nat) : Prop := ∀ z ∈ F, z < b ∨ b + 3 ≤ z
theorem Out.grw {b B : Nat} {F F' : List Nat} (h : Out b F) (g : Grw B F F') (hB : b + 3 ≤ B) : Out b F' := fun z hz => by
  rcases g z hz with q | q
  · exact h z q
  · exact .inr (by omega)
theorem Out.not {b i : Nat} {F : List Nat} (h : Out b F) (hi : i < 3) : b + i ∉ F := fun hm => by have := h _ hm; omega
theorem PX.chgw {w wr w' : World} {g l p nl : Nat} {FE FL FP : List Nat} {W : WS} {S : LS} {most : Int} {L : List Env} {t tl : Nat} (h : PX w wr g l p nl FE FL FP W S most L t tl) (c : Chg [] w wr) (k : Chg (FE ++ FP) wr w') : Chg [] w w' :=
  c.trans' k (fun z hz => .inr (by
    rcases List.mem_append.1 hz with q | q
    · exact (h.e.lt z q).1
    · exact h.lo z q))
/-- Add of what is known. -/
theorem addK {w wr : World} {g l p nl : Nat} {FE FL FP : List Nat} {W : WS} {S : LS} {most : Int} {L : List Env} {t tl : Nat} (h : PX w wr g l p nl FE FL FP W S most L t tl) (ht : t ≤ 900000) (hL : L.length ≤ 1000) (hm : most ≤ 1000) (e : Env) (he : e.Ok) (hr : inR e = true) (hLo : ∀ x ∈ L, x.Ok) (hk : Known W e) (c : Int) (L' : List Env) (hv : pAddV nl S most L true e = (c, L')) :
    Calls Try.prog 19 #[.pointer (some ⟨p, 0, none⟩), nv e, .pointer (some ⟨l, 0, none⟩)] wr fun y w' => y = .returned (.int .i64 c) ∧ ∃ FE' FP', PX w w' g l p nl FE' FL FP' W S most L' (t + 1) tl ∧ Chg (FE ++ FP) wr w' ∧ Grw wr.heap.size (FE ++ FP) (FE' ++ FP') := by
  refine (pAdd h ht hL hm e he hr hLo).mono ?_
  rw [hk.sg, hv, ]
  rintro y w' ⟨rfl, FE', FP', hX, hC, hG⟩
  rw [ws_in hk.mem] at hX
  exact ⟨rfl, FE', FP', hX, hC, hG⟩
set_option maxHeartbeats 16000000 in
theorem awake14 (w : World) : Calls Try.prog 22 #[] w fun e w' => e = .returned (.bool true) ∧ Chg [] w w' := by
  go_enter Try.func22, Try.ntmps22
  go_wp2_with fail
  refine (enNew 1 (by omega) (by omega) w).mono ?_
  rintro y w1 ⟨g, FE, rfl, h1⟩
  go_wp2_with fail
  refine (ledNew 2 (by omega) (by omega) w1).mono ?_
  rintro y w2 ⟨l, FL, rfl, h2⟩
  go_wp2_with fail
  refine (pNew w2 g 2 (by omega) (by omega)).mono ?_
  rintro y w3 ⟨rfl, h3, c3⟩
  have HX : Hid (PX w w3 g l w2.heap.size 2 FE FL [w2.heap.size] W0 (LS1 2) 2 [] 0 0) := PX.start h1 h2 h3 c3
  have HC : Hid (Chg [] w w3) := (h1.c.trans h2.c).trans c3
  clear h1 h2 h3 c3
  generalize w2.heap.size = p at *
  go_wp2_with fail
  refine (enMake HX.out.e (by omega) 0 1 5 (by omega) (by omega) ⟨by decide, by decide⟩ ⟨by decide, by decide⟩ xa rfl).mono ?_
  rintro y v1 ⟨rfl, FE1, s1, hE, hC, hG⟩
  have HX2 := Lib.hid (HX.out.env hE hC hG)
  have HC2 : Hid (Chg [] w v1) := HC.out.trans' hC (fun z hz => .inr (HX.out.e.lt z hz).1)
  clear HX HC hE hC hG
  have HX := HX2
  have HC := HC2
  clear HX2 HC2
  go_wp2_with fail
  refine (enMake HX.out.e (by omega) 0 0 6 (by omega) (by omega) ⟨by decide, by decide⟩ ⟨by decide, by decide⟩ xb rfl).mono ?_
  rintro y v2 ⟨rfl, FE2, s2, hE, hC, hG⟩
  have HX2 := Lib.hid (HX.out.env hE hC hG)
  have HC2 : Hid (Chg [] w v2) := HC.out.trans' hC (fun z hz => .inr (HX.out.e.lt z hz).1)
  clear HX HC hE hC hG
  have HX := HX2
  have HC := HC2
  clear HX2 HC2
  go_wp2_with fail
  refine (enMake HX.out.e (by omega) 1 0 9 (by omega) (by omega) ⟨by decide, by decide⟩ ⟨by decide, by decide⟩ xc rfl).mono ?_
  rintro y v3 ⟨rfl, FE3, s3, hE, hC, hG⟩
  have HX2 := Lib.hid (HX.out.env hE hC hG)
  have HC2 : Hid (Chg [] w v3) := HC.out.trans' hC (fun z hz => .inr (HX.out.e.lt z hz).1)
  clear HX HC hE hC hG
  have HX := HX2
  have HC := HC2
  clear HX2 HC2
  have k3a : Known (mkW (mkW (mkW W0 xa s1) xb s2) xc s3) xa := ((Known.new _ _ _).make _ _).make _ _
  have k3b : Known (mkW (mkW (mkW W0 xa s1) xb s2) xc s3) xb := (Known.new _ _ _).make _ _
  have k3c : Known (mkW (mkW (mkW W0 xa s1) xb s2) xc s3) xc := Known.new _ _ _
  have hzf : ∀ s4, sgnd (mkW (mkW (mkW (mkW W0 xa s1) xb s2) xc s3) xd s4) Env.zero = false := fun s4 => by kernel_rfl
  have HZF := Lib.hid hzf
  clear hzf
  have hll : (mkW (mkW (mkW W0 xa s1) xb s2) xc s3).L.length = 3 := rfl
  have HLL := Lib.hid hll
  have HKA := Lib.hid k3a
  have HKB := Lib.hid k3b
  have HKC := Lib.hid k3c
  clear hll k3a k3b k3c
  generalize mkW (mkW (mkW W0 xa s1) xb s2) xc s3 = W3 at *
  have hB4 : Blk (((v3.alloc (.cells #[.int .i64 xa.client, .int .u64 xa.nonce, .int .u64 xa.fee, .int .i64 xa.cipher] 32)).alloc (.cells #[.int .i64 xb.client, .int .u64 xb.nonce, .int .u64 xb.fee, .int .i64 xb.cipher] 32)).alloc (.cells #[.int .i64 xc.client, .int .u64 xc.nonce, .int .u64 xc.fee, .int .i64 xc.cipher] 32)) v3.heap.size 32 (nc xa) := ((Blk.new v3 (nc xa) 32).alloc (.cells #[.int .i64 xb.client, .int .u64 xb.nonce, .int .u64 xb.fee, .int .i64 xb.cipher] 32)).alloc (.cells #[.int .i64 xc.client, .int .u64 xc.nonce, .int .u64 xc.fee, .int .i64 xc.cipher] 32)
  have hB5 : Blk (((v3.alloc (.cells #[.int .i64 xa.client, .int .u64 xa.nonce, .int .u64 xa.fee, .int .i64 xa.cipher] 32)).alloc (.cells #[.int .i64 xb.client, .int .u64 xb.nonce, .int .u64 xb.fee, .int .i64 xb.cipher] 32)).alloc (.cells #[.int .i64 xc.client, .int .u64 xc.nonce, .int .u64 xc.fee, .int .i64 xc.cipher] 32)) (v3.alloc (.cells #[.int .i64 xa.client, .int .u64 xa.nonce, .int .u64 xa.fee, .int .i64 xa.cipher] 32)).heap.size 32 (nc xb) := (Blk.new (v3.alloc (.cells #[.int .i64 xa.client, .int .u64 xa.nonce, .int .u64 xa.fee, .int .i64 xa.cipher] 32)) (nc xb) 32).alloc (.cells #[.int .i64 xc.client, .int .u64 xc.nonce, .int .u64 xc.fee, .int .i64 xc.cipher] 32)
  have hB6 : Blk (((v3.alloc (.cells #[.int .i64 xa.client, .int .u64 xa.nonce, .int .u64 xa.fee, .int .i64 xa.cipher] 32)).alloc (.cells #[.int .i64 xb.client, .int .u64 xb.nonce, .int .u64 xb.fee, .int .i64 xb.cipher] 32)).alloc (.cells #[.int .i64 xc.client, .int .u64 xc.nonce, .int .u64 xc.fee, .int .i64 xc.cipher] 32)) ((v3.alloc (.cells #[.int .i64 xa.client, .int .u64 xa.nonce, .int .u64 xa.fee, .int .i64 xa.cipher] 32)).alloc (.cells #[.int .i64 xb.client, .int .u64 xb.nonce, .int .u64 xb.fee, .int .i64 xb.cipher] 32)).heap.size 32 (nc xc) := Blk.new ((v3.alloc (.cells #[.int .i64 xa.client, .int .u64 xa.nonce, .int .u64 xa.fee, .int .i64 xa.cipher] 32)).alloc (.cells #[.int .i64 xb.client, .int .u64 xb.nonce, .int .u64 xb.fee, .int .i64 xb.cipher] 32)) (nc xc) 32
  have c4 : Chg [] v3 (((v3.alloc (.cells #[.int .i64 xa.client, .int .u64 xa.nonce, .int .u64 xa.fee, .int .i64 xa.cipher] 32)).alloc (.cells #[.int .i64 xb.client, .int .u64 xb.nonce, .int .u64 xb.fee, .int .i64 xb.cipher] 32)).alloc (.cells #[.int .i64 xc.client, .int .u64 xc.nonce, .int .u64 xc.fee, .int .i64 xc.cipher] 32)) := (((Chg.refl _ _).alloc _).alloc _).alloc _
  have hs4 : (((v3.alloc (.cells #[.int .i64 xa.client, .int .u64 xa.nonce, .int .u64 xa.fee, .int .i64 xa.cipher] 32)).alloc (.cells #[.int .i64 xb.client, .int .u64 xb.nonce, .int .u64 xb.fee, .int .i64 xb.cipher] 32)).alloc (.cells #[.int .i64 xc.client, .int .u64 xc.nonce, .int .u64 xc.fee, .int .i64 xc.cipher] 32)).heap.size = v3.heap.size + 3 := by simp
  have ho : Out v3.heap.size (FE3 ++ [p]) := fun z hz => by
    rcases List.mem_append.1 hz with q | q
    · exact .inl (HX.out.e.lt z q).2
    · exact .inl (HX.out.p.lt z q)
  have hX8 := HX.out.to c4
  have hC8 := HC.out.trans c4
  go_upto_region 8 with (fail)
  have e5 : (v3.alloc (.cells #[.int .i64 xa.client, .int .u64 xa.nonce, .int .u64 xa.fee, .int .i64 xa.cipher] 32)).heap.size = v3.heap.size + 1 := by simp
  have e6 : ((v3.alloc (.cells #[.int .i64 xa.client, .int .u64 xa.nonce, .int .u64 xa.fee, .int .i64 xa.cipher] 32)).alloc (.cells #[.int .i64 xb.client, .int .u64 xb.nonce, .int .u64 xb.fee, .int .i64 xb.cipher] 32)).heap.size = v3.heap.size + 2 := by simp
  rw [e5] at hB5
  rw [e6] at hB6
  have e7 : v3.heap.size + 1 + 1 = v3.heap.size + 2 := rfl
  (try rw [e7])
  obtain ⟨b, hb⟩ : ∃ b, v3.heap.size = b := ⟨_, rfl⟩
  rw [hb] at hB4 hB5 hB6 hs4 ho
  (try simp only [hb])
  clear HX HC c4 e5 e6 e7 hb
  generalize World.alloc (World.alloc (World.alloc v3 _) _) _ = W8 at *
  have HB6 : Hid (Blk W8 (b + 2) 32 (nc xc)) := hB6
  have HC8 := Lib.hid hC8.drew
  have HO := Lib.hid ho
  have hXd := hX8.to ((Chg.refl [] W8).drew)
  have HS4 : Hid (b + 3 ≤ W8.drew.heap.size) := by show b + 3 ≤ W8.heap.size; omega
  have z0 : (0 : Nat) ≤ 900000 := by omega
  have n4 := ho.not (i := 0) (by omega)
  have n5 := ho.not (i := 1) (by omega)
  have n6 := ho.not (i := 2) (by omega)
  have hB5 : Blk W8 (b + 1) 32 (nc xb) := hB5
  obtain ⟨y0, y1, y2, y3, u0', u1', u2', u3'⟩ := cells8 hB4 hB5
  have HA1 := Lib.hid (addK hXd (by omega) (by simp) (by omega) xa xok.1 rfl (by simp) HKA.out 0 [xa] (by kernel_rfl))
  have HB4d := Lib.hid hB4.drew
  have HB5d := Lib.hid hB5.drew
  have HA2 : Hid (∀ (wx : World) (FE FP : List Nat) (t : Nat), t ≤ 900000 → PX w wx g l p 2 FE FL FP W3 (LS1 2) 2 [xa] t 0 → Calls Try.prog 19 #[.pointer (some ⟨p, 0, none⟩), nv xb, .pointer (some ⟨l, 0, none⟩)] wx fun y w' => y = .returned (.int .i64 0) ∧ ∃ FE' FP', PX w w' g l p 2 FE' FL FP' W3 (LS1 2) 2 [xa, xb] (t + 1) 0 ∧ Chg (FE ++ FP) wx w' ∧ Grw wx.heap.size (FE ++ FP) (FE' ++ FP')) := fun wx FE FP t ht hX => addK hX ht (by simp) (by omega) xb xok.2.1 rfl (by intro x hx; simp at hx; subst hx; exact xok.1) HKB.out 0 [xa, xb] (by kernel_rfl)
  have HA3 : Hid (∀ (wx : World) (FE FP : List Nat) (t s : Nat), t ≤ 900000 → PX w wx g l p 2 FE FL FP (mkW W3 xd s) (LS1 2) 2 [xa, xb] t 0 → Calls Try.prog 19 #[.pointer (some ⟨p, 0, none⟩), nv xd, .pointer (some ⟨l, 0, none⟩)] wx fun y w' => y = .returned (.int .i64 9) ∧ ∃ FE' FP', PX w w' g l p 2 FE' FL FP' (mkW W3 xd s) (LS1 2) 2 [xa, xb] (t + 1) 0 ∧ Chg (FE ++ FP) wx w' ∧ Grw wx.heap.size (FE ++ FP) (FE' ++ FP')) := fun wx FE FP t s ht hX => addK hX ht (by simp) (by omega) xd xok.2.2.2.1 rfl (by intro x hx; simp at hx; rcases hx with rfl | rfl; exact xok.1; exact xok.2.1) (Known.new _ _ _) 9 [xa, xb] (by kernel_rfl)
  have HEq : Hid (xd = ⟨1, 16, 9, (W3.L.length : Int) + 1⟩) := by show _ = _; rw [HLL.out]; rfl
  have t10 : 0 + 3 + 3 + 3 + 1 ≤ 900000 := by omega
  have t11 : 0 + 3 + 3 + 3 + 1 + 1 ≤ 900000 := by omega
  have t14 : 0 + 3 + 3 + 3 + 1 + 1 + 3 ≤ 900000 := by omega
  have c10 : (0 : Int) ≤ 1 := by omega
  have c11 : (1 : Int) ≤ 999 := by omega
  have hs16 : U 16 ∧ U 9 := ⟨⟨by decide, by decide⟩, ⟨by decide, by decide⟩⟩
  go_region_held3 (fun w' => w'.cell? ⟨b, 0, none⟩ = some (.int .i64 xa.client) ∧ w'.cell? ⟨b, 1, none⟩ = some (.int .u64 xa.nonce) ∧ w'.cell? ⟨b, 2, none⟩ = some (.int .u64 xa.fee) ∧ w'.cell? ⟨b, 3, none⟩ = some (.int .i64 xa.cipher) ∧ w'.cell? ⟨b + 1, 0, none⟩ = some (.int .i64 xb.client) ∧ w'.cell? ⟨b + 1, 1, none⟩ = some (.int .u64 xb.nonce) ∧ w'.cell? ⟨b + 1, 2, none⟩ = some (.int .u64 xb.fee) ∧ w'.cell? ⟨b + 1, 3, none⟩ = some (.int .i64 xb.cipher)) (first | go_keep | exact qS1 | exact qS2 | exact qS3 | exact qS4)
    (first
      | ((go_at_call 19; (with_reducible refine HA1.out.mono ?_); rintro y u1 ⟨rfl, FE4, FP4, hX4, cA4, gA4⟩; have hb41 := HB4d.out.chg cA4 n4; have hb51 := HB5d.out.chg cA4 n5; have qS1 := cells8 hb41 hb51; have ho4 := HO.out.grw gA4 HS4.out; have hz4 := Nat.le_trans HS4.out cA4.size))
      | ((go_at_call 19; (with_reducible refine (HA2.out _ _ _ _ t10 hX4).mono ?_); rintro y u2 ⟨rfl, FE5, FP5, hX5, cA5, gA5⟩; have n44 := ho4.not (i := 0) (by decide); have n45 := ho4.not (i := 1) (by decide); have hb42 := hb41.chg cA5 n44; have hb52 := hb51.chg cA5 n45; have qS2 := cells8 hb42 hb52; have ho5 := ho4.grw gA5 hz4; have hz5 := Nat.le_trans hz4 cA5.size))
      | ((go_at_call 18; (with_reducible refine (enMake hX5.e t11 1 16 9 c10 c11 hs16.1 hs16.2 xd HEq.out).mono ?_); rintro y u3 ⟨rfl, FE6, s4, hE6, cM, gM⟩; have hX6 := hX5.env hE6 cM gM; have n54 := ho5.not (i := 0) (by decide); have n55 := ho5.not (i := 1) (by decide); have hb43 := hb42.chg cM (fun hm => n54 (List.mem_append.2 (.inl hm))); have hb53 := hb52.chg cM (fun hm => n55 (List.mem_append.2 (.inl hm))); have qS3 := cells8 hb43 hb53; have gM2 := grw_two (C := FP5) gM (Grw.refl u2.heap.size FP5) (Nat.le_refl _); have ho6 := ho5.grw gM2 hz5; have hz6 := Nat.le_trans hz5 cM.size))
      | ((go_at_call 19; (with_reducible refine (HA3.out _ _ _ _ _ t14 hX6).mono ?_); rintro y u4 ⟨rfl, FE7, FP7, hX7, cA7, gA7⟩; have n64 := ho6.not (i := 0) (by decide); have n65 := ho6.not (i := 1) (by decide); have hb44 := hb43.chg cA7 n64; have hb54 := hb53.chg cA7 n65; have qS4 := cells8 hb44 hb54; have ho7 := ho6.grw gA7 hz6; have hz7 := Nat.le_trans hz6 cA7.size)))
  all_goals
    have HC7 : Hid (Chg [] w u4) := hX6.chgw ((hX5.chgw (hX4.chgw (hXd.chgw HC8.out cA4) cA5)) (cM.mono (fun z hz => List.mem_append.2 (.inl hz)))) cA7
    have HX7 := Lib.hid hX7
    have HB44 := Lib.hid hb44
    have HB54 := Lib.hid hb54
    have hb64 := ((((HB6.out.drew).chg cA4 n6).chg cA5 (ho4.not (i := 2) (by decide))).chg cM (fun hm => ho5.not (i := 2) (by decide) (List.mem_append.2 (.inl hm)))).chg cA7 (ho6.not (i := 2) (by decide))
    have HB64 := Lib.hid hb64
    have HO7 := Lib.hid ho7
    have HZ7 := Lib.hid hz7
    have k4a : Known (mkW W3 xd s4) xa := HKA.out.make _ _
    have k4b : Known (mkW W3 xd s4) xb := HKB.out.make _ _
    have k4c : Known (mkW W3 xd s4) xc := HKC.out.make _ _
    have HKA4 := Lib.hid k4a
    have HKB4 := Lib.hid k4b
    have HKC4 := Lib.hid k4c
    clear hX4 hX5 hX6 hX7 hE6 cA4 cA5 cM cA7 gA4 gA5 gM gM2 gA7 hb41 hb51 hb42 hb52 hb43 hb53 hb44 hb54 hb64 qS1 qS2 qS3 qS4 ho4 ho5 ho6 ho7 hz4 hz5 hz6 hz7 k4a k4b k4c n44 n45 n54 n55 n64 n65 y0 y1 y2 y3 u0' u1' u2' u3'
    go_wp2_with fail
    refine (pBatch HX7.out (by omega) (by simp) (by
      intro x hx
      simp at hx
      rcases hx with rfl | rfl
      · exact ⟨xok.1, HKA4.out.mem⟩
      · exact ⟨xok.2.1, HKB4.out.mem⟩) 5 (by omega) none [] 0 0 rfl (by omega) (.inl rfl) [xb, xa] (by rfl)).mono ?_
    rintro y u5 ⟨v5, rfl, ho5, c5⟩
    rcases own_erow ho5 with ⟨-, h0, -⟩ | ⟨gn, cn, hv5, hgn, -, hEn⟩
    · cases h0
    subst hv5
    have HX5 := Lib.hid (HX7.out.to c5)
    have HC5 := Lib.hid (HC7.out.trans c5)
    have HB45 := Lib.hid (HB44.out.chg c5 (by simp))
    have HB55 := Lib.hid (HB54.out.chg c5 (by simp))
    have HB65 := Lib.hid (HB64.out.chg c5 (by simp))
    have HEN := Lib.hid hEn
    have HGN : Hid (gn ∉ FE7 ++ FP7) := fun hm => by
      rcases List.mem_append.1 hm with q | q
      · have := (HX7.out.e.lt gn q).2; omega
      · have := HX7.out.p.lt gn q; omega
    have HZ5 : Hid (b + 3 ≤ u5.heap.size) := Nat.le_trans HZ7.out c5.size
    clear ho5 c5 hgn hEn HX7 HC7 HB44 HB54 HB64
    obtain ⟨t5, ht5⟩ : ∃ t, 0 + 3 + 3 + 3 + 1 + 1 + 3 + 1 = t := ⟨_, rfl⟩
    have hx5 := HX5.out
    rw [ht5] at hx5
    have ht9 : t5 ≤ 1000 := by omega
    have HX5' := Lib.hid hx5
    clear HX5 hx5 ht5
    generalize hW4 : mkW W3 xd s4 = W4 at *
    have HW4 := Lib.hid hW4
    clear hW4
    have y60 := HB65.out.at (i := 0) rfl
    have y61 := HB65.out.at (i := 1) rfl
    have y62 := HB65.out.at (i := 2) rfl
    have y63 := HB65.out.at (i := 3) rfl
    have okL : ∀ x ∈ [xa, xb], x.Ok := by
      intro x hx
      simp at hx
      rcases hx with rfl | rfl
      · exact xok.1
      · exact xok.2.1
    have HA4 := Lib.hid (addK HX5'.out (by omega) (by simp) (by omega) xc xok.2.2.1 rfl okL HKC4.out 0 [xb, xc] (by kernel_rfl))
    clear okL
    go_wp2_with fail
    refine HA4.out.mono ?_
    rintro y u6 ⟨rfl, FE8, FP8, hX8', cA8, gA8⟩
    have hb46 := HB45.out.chg cA8 (HO7.out.not (i := 0) (by omega))
    have hb56 := HB55.out.chg cA8 (HO7.out.not (i := 1) (by omega))
    have hb66 := HB65.out.chg cA8 (HO7.out.not (i := 2) (by omega))
    have he6 := HEN.out.chg cA8 HGN.out
    have ho8 := HO7.out.grw gA8 HZ5.out
    have hz8 : b + 3 ≤ u6.heap.size := Nat.le_trans HZ5.out cA8.size
    have hgl := HEN.out.lt
    have hg8 : gn ∉ FE8 ++ FP8 := fun hm => by
      rcases gA8 gn hm with q | q
      · exact HGN.out q
      · omega
    have hgl8 : gn < u6.heap.size := Nat.lt_of_lt_of_le hgl cA8.size
    have HC6 : Hid (Chg [] w u6) := HX5'.out.chgw HC5.out cA8
    have hXd := hX8'.to ((Chg.refl [] u6).drew)
    have hXa := hX8'.to (((Chg.refl [] u6).alloc (.cells #[.int .i64 xb.client, .int .u64 xb.nonce, .int .u64 xb.fee, .int .i64 xb.cipher, .int .i64 xc.client, .int .u64 xc.nonce, .int .u64 xc.fee, .int .i64 xc.cipher] 32)).drew)
    have HB46 : Hid (Blk u6.drew b 32 (nc xa)) := hb46
    have HB56 : Hid (Blk u6.drew (b + 1) 32 (nc xb)) := hb56
    have HB66 : Hid (Blk u6.drew (b + 2) 32 (nc xc)) := hb66
    have HE6 : Hid (Erow u6.drew gn cn [xb, xa]) := he6
    have HO8 := Lib.hid ho8
    have HG8 := Lib.hid hg8
    have HZ8 := Lib.hid hz8
    have HGL8 := Lib.hid hgl8
    have HS : Hid (∀ w' : World, Blk w' b 32 (nc xa) → Blk w' (b + 1) 32 (nc xb) → Blk w' (b + 2) 32 (nc xc) → Erow w' gn cn [xb, xa] → (w'.cell? ⟨b, 0, none⟩ = some (.int .i64 xa.client) ∧ w'.cell? ⟨b, 1, none⟩ = some (.int .u64 xa.nonce) ∧ w'.cell? ⟨b, 2, none⟩ = some (.int .u64 xa.fee) ∧ w'.cell? ⟨b, 3, none⟩ = some (.int .i64 xa.cipher) ∧ w'.cell? ⟨b + 1, 0, none⟩ = some (.int .i64 xb.client) ∧ w'.cell? ⟨b + 1, 1, none⟩ = some (.int .u64 xb.nonce) ∧ w'.cell? ⟨b + 1, 2, none⟩ = some (.int .u64 xb.fee) ∧ w'.cell? ⟨b + 1, 3, none⟩ = some (.int .i64 xb.cipher) ∧ w'.cell? ⟨b + 2, 0, none⟩ = some (.int .i64 xc.client) ∧ w'.cell? ⟨b + 2, 1, none⟩ = some (.int .u64 xc.nonce) ∧ w'.cell? ⟨b + 2, 2, none⟩ = some (.int .u64 xc.fee) ∧ w'.cell? ⟨b + 2, 3, none⟩ = some (.int .i64 xc.cipher) ∧ w'.cell? ⟨gn, 0, none⟩ = some (.int .i64 xb.client) ∧ w'.cell? ⟨gn, 1, none⟩ = some (.int .u64 xb.nonce) ∧ w'.cell? ⟨gn, 2, none⟩ = some (.int .u64 xb.fee) ∧ w'.cell? ⟨gn, 3, none⟩ = some (.int .i64 xb.cipher) ∧ w'.cell? ⟨gn, 4, none⟩ = some (.int .i64 xa.client) ∧ w'.cell? ⟨gn, 5, none⟩ = some (.int .u64 xa.nonce) ∧ w'.cell? ⟨gn, 6, none⟩ = some (.int .u64 xa.fee) ∧ w'.cell? ⟨gn, 7, none⟩ = some (.int .i64 xa.cipher))) := fun w' h1 h2 h3 h4 => by
      obtain ⟨r0, r1, r2, r3⟩ := Nrow.at h4.beg (k := 0) (by simp)
      obtain ⟨r4, r5, r6, r7⟩ := Nrow.at h4.beg (k := 1) (by simp)
      exact ⟨h1.at (i := 0) rfl, h1.at (i := 1) rfl, h1.at (i := 2) rfl, h1.at (i := 3) rfl, h2.at (i := 0) rfl, h2.at (i := 1) rfl, h2.at (i := 2) rfl, h2.at (i := 3) rfl, h3.at (i := 0) rfl, h3.at (i := 1) rfl, h3.at (i := 2) rfl, h3.at (i := 3) rfl, r0, r1, r2, r3, r4, r5, r6, r7⟩
    have qS0 := HS.out u6.drew HB46.out HB56.out HB66.out HE6.out
    have hnr : ∀ W : World, Nrow (W.alloc (.cells #[.int .i64 xb.client, .int .u64 xb.nonce, .int .u64 xb.fee, .int .i64 xb.cipher, .int .i64 xc.client, .int .u64 xc.nonce, .int .u64 xc.fee, .int .i64 xc.cipher] 32)) W.heap.size [xb, xc] := fun W => (Blk.new W [.int .i64 xb.client, .int .u64 xb.nonce, .int .u64 xb.fee, .int .i64 xb.cipher, .int .i64 xc.client, .int .u64 xc.nonce, .int .u64 xc.fee, .int .i64 xc.cipher] 32).beg
    have okL : ∀ x ∈ [xb, xc], x.Ok := by
      intro x hx
      simp at hx
      rcases hx with rfl | rfl
      · exact xok.2.1
      · exact xok.2.2.1
    have HA5 : Hid (∀ (wx : World) (FE FP : List Nat) (t : Nat), t ≤ 900000 → PX w wx g l p 2 FE FL FP W4 (LS1 2) 2 [xb, xc] t 0 → Calls Try.prog 19 #[.pointer (some ⟨p, 0, none⟩), nv xa, .pointer (some ⟨l, 0, none⟩)] wx fun y w' => y = .returned (.int .i64 11) ∧ ∃ FE' FP', PX w w' g l p 2 FE' FL FP' W4 (LS1 2) 2 [xb, xc] (t + 1) 0 ∧ Chg (FE ++ FP) wx w' ∧ Grw wx.heap.size (FE ++ FP) (FE' ++ FP')) := fun wx FE FP t ht hX => addK hX ht (by simp) (by omega) xa xok.1 rfl okL HKA4.out 11 [xb, xc] (by kernel_rfl)
    have hzf : sgnd W4 Env.zero = false := by rw [← HW4.out]; exact HZF.out s4
    have HA6 : Hid (∀ (wx : World) (FE FP : List Nat) (t : Nat), t ≤ 900000 → PX w wx g l p 2 FE FL FP W4 (LS1 2) 2 [xb, xc] t 0 → Calls Try.prog 19 #[.pointer (some ⟨p, 0, none⟩), .agg #[.int .i64 0, .int .u64 0, .int .u64 0, .int .i64 0], .pointer (some ⟨l, 0, none⟩)] wx fun y w' => y = .returned (.int .i64 8) ∧ ∃ FE' FP', PX w w' g l p 2 FE' FL FP' { W4 with T := eIns W4.T Env.zero } (LS1 2) 2 [xb, xc] (t + 1) 0 ∧ Chg (FE ++ FP) wx w' ∧ Grw wx.heap.size (FE ++ FP) (FE' ++ FP')) := fun wx FE FP t ht hX => by
      refine (pAdd hX ht (by simp) (by omega) Env.zero xok.2.2.2.2 rfl okL).mono ?_
      rw [hzf]
      rintro y w' ⟨rfl, FE', FP', k1, k2, k3⟩
      exact ⟨rfl, FE', FP', k1, k2, k3⟩
    have HA7 : Hid (∀ (wx : World) (FE FP : List Nat) (t : Nat), t ≤ 900000 → PX w wx g l p 2 FE FL FP { W4 with T := eIns W4.T Env.zero } (LS1 2) 2 [xb, xc] t 0 → Calls Try.prog 19 #[.pointer (some ⟨p, 0, none⟩), nv xc, .pointer (some ⟨l, 0, none⟩)] wx fun y w' => y = .returned (.int .i64 10) ∧ ∃ FE' FP', PX w w' g l p 2 FE' FL FP' { W4 with T := eIns W4.T Env.zero } (LS1 2) 2 [xb, xc] (t + 1) 0 ∧ Chg (FE ++ FP) wx w' ∧ Grw wx.heap.size (FE ++ FP) (FE' ++ FP')) := fun wx FE FP t ht hX => addK hX ht (by simp) (by omega) xc xok.2.2.1 rfl okL (HKC4.out.ins _) 10 [xb, xc] (by kernel_rfl)
    have h2le : (2 : Nat) ≤ 1000000000 := by omega
    have h2le2 : (2 : Nat) ≤ 1000000 := by omega
    have r1 : t5 + 1 ≤ 900000 := by omega
    have r2 : t5 + 1 + 1 ≤ 900000 := by omega
    have r3 : t5 + 1 + 1 + 1 ≤ 900000 := by omega
    have cAo : ∀ W : World, Chg [] W (W.alloc (.cells #[.int .i64 xb.client, .int .u64 xb.nonce, .int .u64 xb.fee, .int .i64 xb.cipher, .int .i64 xc.client, .int .u64 xc.nonce, .int .u64 xc.fee, .int .i64 xc.cipher] 32)) := fun W => (Chg.refl [] W).alloc _
    have cAd : Chg [] u6.drew ((u6.alloc (.cells #[.int .i64 xb.client, .int .u64 xb.nonce, .int .u64 xb.fee, .int .i64 xb.cipher, .int .i64 xc.client, .int .u64 xc.nonce, .int .u64 xc.fee, .int .i64 xc.cipher] 32)).drew) := ((Chg.refl [] u6.drew).alloc (.cells #[.int .i64 xb.client, .int .u64 xb.nonce, .int .u64 xb.fee, .int .i64 xb.cipher, .int .i64 xc.client, .int .u64 xc.nonce, .int .u64 xc.fee, .int .i64 xc.cipher] 32))
    have qSa := HS.out ((u6.alloc (.cells #[.int .i64 xb.client, .int .u64 xb.nonce, .int .u64 xb.fee, .int .i64 xb.cipher, .int .i64 xc.client, .int .u64 xc.nonce, .int .u64 xc.fee, .int .i64 xc.cipher] 32)).drew) (HB46.out.chg cAd (by simp)) (HB56.out.chg cAd (by simp)) (HB66.out.chg cAd (by simp)) (HE6.out.chg cAd (by simp))
    have hn2 : ([xb, xc] : List Env).length = 2 := rfl
    have hn2i : ((([xb, xc] : List Env).length : Nat) : Int) = 2 := rfl
    have hnrd : Nrow ((u6.alloc (.cells #[.int .i64 xb.client, .int .u64 xb.nonce, .int .u64 xb.fee, .int .i64 xb.cipher, .int .i64 xc.client, .int .u64 xc.nonce, .int .u64 xc.fee, .int .i64 xc.cipher] 32)).drew) u6.heap.size [xb, xc] := hnr u6
    have hP6 := hXd.p
    have hP6a := hXa.p
    clear okL hzf hb46 hb56 hb66 he6 ho8 hg8 hgl8 cA8 gA8 hX8' HA4 HX5' y60 y61 y62 y63
    go_upto_region 11 with (fail)
    simp only [List.append_eq, List.cons_append, List.nil_append]
    go_region_held3 (fun w' => w'.cell? ⟨b, 0, none⟩ = some (.int .i64 xa.client) ∧ w'.cell? ⟨b, 1, none⟩ = some (.int .u64 xa.nonce) ∧ w'.cell? ⟨b, 2, none⟩ = some (.int .u64 xa.fee) ∧ w'.cell? ⟨b, 3, none⟩ = some (.int .i64 xa.cipher) ∧ w'.cell? ⟨b + 1, 0, none⟩ = some (.int .i64 xb.client) ∧ w'.cell? ⟨b + 1, 1, none⟩ = some (.int .u64 xb.nonce) ∧ w'.cell? ⟨b + 1, 2, none⟩ = some (.int .u64 xb.fee) ∧ w'.cell? ⟨b + 1, 3, none⟩ = some (.int .i64 xb.cipher) ∧ w'.cell? ⟨b + 2, 0, none⟩ = some (.int .i64 xc.client) ∧ w'.cell? ⟨b + 2, 1, none⟩ = some (.int .u64 xc.nonce) ∧ w'.cell? ⟨b + 2, 2, none⟩ = some (.int .u64 xc.fee) ∧ w'.cell? ⟨b + 2, 3, none⟩ = some (.int .i64 xc.cipher) ∧ w'.cell? ⟨gn, 0, none⟩ = some (.int .i64 xb.client) ∧ w'.cell? ⟨gn, 1, none⟩ = some (.int .u64 xb.nonce) ∧ w'.cell? ⟨gn, 2, none⟩ = some (.int .u64 xb.fee) ∧ w'.cell? ⟨gn, 3, none⟩ = some (.int .i64 xb.cipher) ∧ w'.cell? ⟨gn, 4, none⟩ = some (.int .i64 xa.client) ∧ w'.cell? ⟨gn, 5, none⟩ = some (.int .u64 xa.nonce) ∧ w'.cell? ⟨gn, 6, none⟩ = some (.int .u64 xa.fee) ∧ w'.cell? ⟨gn, 7, none⟩ = some (.int .i64 xa.cipher)) (first | exact qSa | exact qA1 | exact qS1 | exact qS2 | exact qS3 | exact qS4 | exact qS5 | go_keep)
      (first
        | ((go_at_call 21; (with_reducible refine (pLen hP6 2 hn2i).mono ?_); rintro y uL ⟨rfl, rfl⟩))
        | ((go_at_call 21; (with_reducible refine (pLen hP7 2 hn2i).mono ?_); rintro y uL ⟨rfl, rfl⟩))
        | ((go_at_call 21; (with_reducible refine (pLen hP7a 2 hn2i).mono ?_); rintro y uL ⟨rfl, rfl⟩))
        | ((go_at_call 21; (with_reducible refine (pLen hP6a 2 hn2i).mono ?_); rintro y uL ⟨rfl, rfl⟩))
        | ((go_at_call 21; (with_reducible refine (pLen hX9.p 2 hn2i).mono ?_); rintro y uL ⟨rfl, rfl⟩))
        | ((go_at_call 21; (with_reducible refine (pLen hX10.p 2 hn2i).mono ?_); rintro y uL ⟨rfl, rfl⟩))
        | ((go_at_call 21; (with_reducible refine (pLen hX11.p 2 hn2i).mono ?_); rintro y uL ⟨rfl, rfl⟩))
        | ((go_at_call 21; (with_reducible refine (pLen hX12.p 2 hn2i).mono ?_); rintro y uL ⟨rfl, rfl⟩))
        | ((go_at_call 20; (with_reducible refine (pAll hP6 (n := 2) hn2 h2le).mono ?_); rintro y u7 ⟨va, rfl, hoA, cAl⟩; obtain ⟨aA, cpA, rfl, -, hnA, -⟩ := own_nsl hoA; have kA : Chg [] u6.drew u7 := cAl; have hP7 := (hXd.to kA).p; have hP7a := (hXd.to (kA.trans (cAo u7))).p; have qS1 := HS.out u7 (HB46.out.chg kA (by simp)) (HB56.out.chg kA (by simp)) (HB66.out.chg kA (by simp)) (HE6.out.chg kA (by simp)); have kA2 := kA.trans (cAo u7); have qA1 := HS.out (u7.alloc (.cells #[.int .i64 xb.client, .int .u64 xb.nonce, .int .u64 xb.fee, .int .i64 xb.cipher, .int .i64 xc.client, .int .u64 xc.nonce, .int .u64 xc.fee, .int .i64 xc.cipher] 32)) (HB46.out.chg kA2 (by simp)) (HB56.out.chg kA2 (by simp)) (HB66.out.chg kA2 (by simp)) (HE6.out.chg kA2 (by simp))))
        | ((go_at_call 20; (with_reducible refine (pAll hP6a (n := 2) hn2 h2le).mono ?_); rintro y u7 ⟨va, rfl, hoA, cAl⟩; obtain ⟨aA, cpA, rfl, -, hnA, -⟩ := own_nsl hoA; have kA : Chg [] u6.drew u7 := cAd.trans cAl; have hP7 := (hXd.to kA).p; have hnB : Nrow u7 u6.heap.size [xb, xc] := hnrd.chg cAl (by simp); have qS1 := HS.out u7 (HB46.out.chg kA (by simp)) (HB56.out.chg kA (by simp)) (HB66.out.chg kA (by simp)) (HE6.out.chg kA (by simp))))
        | ((go_at_call 65; (refine (envSame (w := u7) (n := 2) (m := 2) (L := [xb, xc]) (M := [xb, xc]) hn2 hn2 h2le2 h2le2 hnA (.inr ⟨u6.heap.size, rfl, hnB⟩) rfl).mono ?_); rintro y u8 ⟨rfl, cS⟩; have kS := kA.trans cS; have hX9 := hXd.to kS; have b49 := HB46.out.chg kS (by simp); have b59 := HB56.out.chg kS (by simp); have b69 := HB66.out.chg kS (by simp); have e69 := HE6.out.chg kS (by simp); have z9 := Nat.le_trans HZ8.out kS.size; have g9 := Nat.lt_of_lt_of_le HGL8.out kS.size; have qS2 := HS.out u8 b49 b59 b69 e69))
        | ((go_at_call 65; (refine (envSame (n := 2) (m := 2) (L := [xb, xc]) (M := [xb, xc]) hn2 hn2 h2le2 h2le2 (hnA.chg (cAo u7) (by simp)) (.inr ⟨u7.heap.size, rfl, hnr u7⟩) rfl).mono ?_); rintro y u8 ⟨rfl, cS⟩; have kS := (kA.trans (cAo u7)).trans cS; have hX9 := hXd.to kS; have b49 := HB46.out.chg kS (by simp); have b59 := HB56.out.chg kS (by simp); have b69 := HB66.out.chg kS (by simp); have e69 := HE6.out.chg kS (by simp); have z9 := Nat.le_trans HZ8.out kS.size; have g9 := Nat.lt_of_lt_of_le HGL8.out kS.size; have qS2 := HS.out u8 b49 b59 b69 e69))
        | ((go_at_call 19; (with_reducible refine (HA5.out _ _ _ _ r1 hX9).mono ?_); rintro y u9 ⟨rfl, FE9, FP9, hX10, cB1, gB1⟩; have b410 := b49.chg cB1 (HO8.out.not (i := 0) (by decide)); have b510 := b59.chg cB1 (HO8.out.not (i := 1) (by decide)); have b610 := b69.chg cB1 (HO8.out.not (i := 2) (by decide)); have e610 := e69.chg cB1 HG8.out; have o10 := HO8.out.grw gB1 z9; have z10 := Nat.le_trans z9 cB1.size; have g10 : gn ∉ FE9 ++ FP9 := (fun hm => (gB1 gn hm).elim HG8.out (fun q => absurd g9 (Nat.not_lt.2 q))); have gl10 := Nat.lt_of_lt_of_le g9 cB1.size; have qS3 := HS.out u9 b410 b510 b610 e610))
        | ((go_at_call 19; (with_reducible refine (HA6.out _ _ _ _ r2 hX10).mono ?_); rintro y u10 ⟨rfl, FE10, FP10, hX11, cB2, gB2⟩; have b411 := b410.chg cB2 (o10.not (i := 0) (by decide)); have b511 := b510.chg cB2 (o10.not (i := 1) (by decide)); have b611 := b610.chg cB2 (o10.not (i := 2) (by decide)); have e611 := e610.chg cB2 g10; have o11 := o10.grw gB2 z10; have z11 := Nat.le_trans z10 cB2.size; have g11 : gn ∉ FE10 ++ FP10 := (fun hm => (gB2 gn hm).elim g10 (fun q => absurd gl10 (Nat.not_lt.2 q))); have qS4 := HS.out u10 b411 b511 b611 e611))
        | ((go_at_call 19; (with_reducible refine (HA7.out _ _ _ _ r3 hX11).mono ?_); rintro y u11 ⟨rfl, FE11, FP11, hX12, cB3, gB3⟩; have b412 := b411.chg cB3 (o11.not (i := 0) (by decide)); have b512 := b511.chg cB3 (o11.not (i := 1) (by decide)); have b612 := b611.chg cB3 (o11.not (i := 2) (by decide)); have e612 := e611.chg cB3 g11; have qS5 := HS.out u11 b412 b512 b612 e612)))
    all_goals
      have hfin : Chg [] w u11 := hX11.chgw (hX10.chgw (hX9.chgw (HC6.out.trans (((Chg.refl [] u6).drew).trans kS)) cB1) cB2) cB3
      go_wp2_with fail
      go_ret
      exact ⟨rfl, hfin⟩
end Go.Proofs.Yteabcpmpcbjicaa
