
import Derived.Test.YteabcpmpcbjicaaGreatExM
import Derived.Test.YteabcpmpcbjicaaGreatHoldA
import Derived.StillTailTactics
import Derived.BigQuiet
import Derived.Deep.DrawnRows
import Derived.Deep.RegionHeld3
namespace Go.Proofs.YteabcpmpcbjicaaGreat
set_option linter.unusedVariables false
open Go Go.Proofs Go.RowKit
attribute [local go_sem ↓] Go.wp_at_zero Go.wp_at_succ

/-- What is asked. -/
structure Txx where
  kind : Int
  asset : Int
  dst : Int
  buy : Bool
  price : Int
  qty : Int
  id : Int
deriving DecidableEq
def txc (t : Txx) : List Value := [.int .i64 t.kind, .int .i64 t.asset, .int .i64 t.dst, .bool t.buy, .int .u64 t.price, .int .u64 t.qty, .int .i64 t.id]
abbrev txv (t : Txx) : Value := .agg #[.int .i64 t.kind, .int .i64 t.asset, .int .i64 t.dst, .bool t.buy, .int .u64 t.price, .int .u64 t.qty, .int .i64 t.id]
structure Txx.Ok (t : Txx) : Prop where
  kind : I t.kind
  asset : I t.asset
  dst : I t.dst
  price : U t.price
  qty : U t.qty
  id : I t.id
/-- An entry. -/
structure Ent where
  client : Int
  nonce : Int
  fee : Int
  good : Bool
  tx : Txx
deriving DecidableEq
def ec (e : Ent) : List Value := [.int .i64 e.client, .int .u64 e.nonce, .int .u64 e.fee, .bool e.good, .int .i64 e.tx.kind, .int .i64 e.tx.asset, .int .i64 e.tx.dst, .bool e.tx.buy, .int .u64 e.tx.price, .int .u64 e.tx.qty, .int .i64 e.tx.id]
abbrev ev (e : Ent) : Value := .agg #[.int .i64 e.client, .int .u64 e.nonce, .int .u64 e.fee, .bool e.good, .int .i64 e.tx.kind, .int .i64 e.tx.asset, .int .i64 e.tx.dst, .bool e.tx.buy, .int .u64 e.tx.price, .int .u64 e.tx.qty, .int .i64 e.tx.id]
structure Ent.Ok (e : Ent) : Prop where
  client : I e.client
  nonce : U e.nonce
  fee : U e.fee
  tx : e.tx.Ok
/-- What came of it. -/
structure Rcp where
  code : Int
  paid : Int
  id : Int
  T : List Trd
abbrev rcv (r : Rcp) (a : Option Addr) (nT cap : Nat) : Value := .agg #[.int .i64 r.code, .int .u64 r.paid, .int .i64 r.id, .slice a nT cap]
/-- A ledger's state, plain. -/
structure LS where
  xs : List Int
  f : Int → Int
  got : Int
  L : List Ord
  M : List Ord
  k : Nat
  nx : List Int
  g0 : Int
  g1 : Int
  b0 : Int
  b1 : Int
def no (c : Int) : Rcp := ⟨c, 0, 0, []⟩
def uW (v : Int) : Int := v % 18446744073709551616
theorem uW_U (v : Int) : U (uW v) := by unfold uW U; omega
theorem uW_wrap (v : Int) : IntKind.u64.wrap v = uW v := by simp [IntKind.wrap, IntKind.bits, IntKind.signed, uW]
def lG (S : LS) (a : Int) : Int := if a = 0 then S.g0 else S.g1
def lDepOk (S : LS) (t : Txx) : Bool := cAddB (lG S t.asset) t.qty && decide (cAddN (lG S t.asset) t.qty ≤ 4611686018427387904)
def lDep (n : Nat) (S : LS) (c : Int) (t : Txx) : LS × Rcp :=
  if lDepOk S t = true then
    ({ S with xs := aPut n S.xs c t.asset t.qty, g0 := if t.asset = 0 then cAddN S.g0 t.qty else S.g0, g1 := if t.asset = 0 then S.g1 else cAddN S.g1 t.qty }, no 0)
  else (S, no 4)
def lWd (n : Nat) (S : LS) (c : Int) (t : Txx) : LS × Rcp :=
  if aTakeE n S.xs c t.asset t.qty = 0 then
    ({ S with xs := aTake n S.xs c t.asset t.qty, b0 := if t.asset = 0 then uW (S.b0 + t.qty) else S.b0, b1 := if t.asset = 0 then S.b1 else uW (S.b1 + t.qty) }, no 0)
  else (S, no 5)
def lTr (n : Nat) (S : LS) (c : Int) (t : Txx) : LS × Rcp :=
  if aHas n t.dst = true then (if aTakeE n S.xs c t.asset t.qty = 0 then ({ S with xs := aPut n (aTake n S.xs c t.asset t.qty) t.dst t.asset t.qty }, no 0) else (S, no 5)) else (S, no 6)
/-- The order that is asked for. -/
def lOrd (S : LS) (c : Int) (t : Txx) : Ord := ⟨(S.k : Int) + 1, c, t.buy, t.price, t.qty⟩
def lLeft (S : LS) (c : Int) (t : Txx) : Ord := ⟨(S.k : Int) + 1, c, t.buy, t.price, (mres (lOrd S c t) S.L S.M).2.1⟩
def lPaid (n : Nat) (S : LS) (c : Int) (t : Txx) : List Int := (mres (lOrd S c t) S.L S.M).1.foldl (payL n (lOrd S c t)) (aTake n S.xs c (lockA (lOrd S c t)) (lockN (lOrd S c t)))
def eCode (e : Int) : Int := if e = 0 then 0 else if e = 6 then 7 else if e = 7 then 8 else 5
def lLim (n : Nat) (S : LS) (c : Int) (t : Txx) : LS × Rcp :=
  if mtE n S.xs c t.buy t.price t.qty = 0 then
    ({ S with xs := lPaid n S c t, L := restL (lLeft S c t) (mL (lOrd S c t) S.L S.M), M := restM (lLeft S c t) (mM (lOrd S c t) S.L S.M), k := S.k + 1 }, ⟨0, 0, (S.k : Int) + 1, (mres (lOrd S c t) S.L S.M).1⟩)
  else (S, no (eCode (mtE n S.xs c t.buy t.price t.qty)))
def lNow (n : Nat) (S : LS) (c : Int) (t : Txx) : LS × Rcp :=
  if mtE n S.xs c t.buy t.price t.qty = 0 then
    ({ S with xs := aPut n (lPaid n S c t) c (lockA (lLeft S c t)) (lockN (lLeft S c t)), L := mL (lOrd S c t) S.L S.M, M := mM (lOrd S c t) S.L S.M, k := S.k + 1 }, ⟨0, 0, 0, (mres (lOrd S c t) S.L S.M).1⟩)
  else (S, no (eCode (mtE n S.xs c t.buy t.price t.qty)))
def lCan (n : Nat) (S : LS) (c : Int) (t : Txx) : LS × Rcp :=
  if (pickB t.id S.L S.M).2 = true ∧ (pickB t.id S.L S.M).1.client = c then
    ({ S with xs := aPut n S.xs c (lockA (pickB t.id S.L S.M).1) (lockN (pickB t.id S.L S.M).1), L := sans t.id S.L, M := remM t.id S.L S.M }, no 0)
  else (S, no 8)
def lAct (n : Nat) (S : LS) (c : Int) (t : Txx) : LS × Rcp :=
  if t.kind = 1 then lDep n S c t else if t.kind = 2 then lWd n S c t else if t.kind = 3 then lTr n S c t else if t.kind = 4 then lLim n S c t else if t.kind = 5 then lNow n S c t else lCan n S c t
/-- tx.fields. -/
def txF (t : Txx) : Txx :=
  if t.kind = 1 ∨ t.kind = 2 then ⟨t.kind, t.asset, 0, false, 0, t.qty, 0⟩ else if t.kind = 3 then ⟨3, t.asset, t.dst, false, 0, t.qty, 0⟩
  else if t.kind = 4 ∨ t.kind = 5 then ⟨t.kind, 0, 0, t.buy, t.price, t.qty, 0⟩ else if t.kind = 6 then ⟨6, 0, 0, false, 0, 0, t.id⟩ else ⟨0, 0, 0, false, 0, 0, 0⟩
def txK (t : Txx) : Bool := decide (1 ≤ t.kind ∧ t.kind ≤ 6)
def tIn (a b : Int) : Bool := decide (0 ≤ a) && decide (a ≤ b)
def txOk (t : Txx) : Bool := txK t && decide (txF t = t) && tIn t.asset 1 && tIn t.dst 2147483647 && tIn t.id 2147483647
def lNx (S : LS) (c : Int) : Int := S.nx.getD c.toNat 0
def lDone (n : Nat) (S : LS) (e : Ent) : LS × Rcp :=
  if aHas n e.client = true then
    (if (e.good && txOk e.tx) = true then
      (if e.nonce = lNx S e.client then lAct n { S with nx := S.nx.set e.client.toNat (uW (lNx S e.client + 1)) } e.client e.tx else (S, no 3))
    else (S, no 2))
  else (S, no 1)
def lHeld (n : Nat) (S : LS) (e : Ent) : LS := { S with xs := hHoldX n S.xs S.f e.client e.fee, f := hHoldF n S.xs S.f e.client e.fee }
def lEnd (n : Nat) (r : LS × Rcp) (c : Int) : LS × Rcp :=
  if r.2.code = 0 then ({ r.1 with xs := sX n r.1.xs r.1.f r.1.got c 1, f := sF n r.1.xs r.1.f r.1.got c 1, got := sGot r.1.f r.1.got c 1 }, { r.2 with paid := sV r.1.f r.1.got c 1 })
  else ({ r.1 with f := fF r.1.f r.1.got c, got := fGot r.1.f r.1.got c }, { r.2 with paid := fV r.1.f r.1.got c })
/-- An entry is done. -/
def lDo (n : Nat) (S : LS) (e : Ent) : LS × Rcp := lEnd n (lDone n (lHeld n S e) e) e.client

/-- A ledger in memory. -/
structure Led (w wr : World) (l ab s fb mb x kb ns n : Nat) (F : List Nat) (m : Nat) (S : LS) : Prop where
  hd : ∃ cap, n ≤ cap ∧ cap ≤ maxLen ∧ Blk wr l 141 [.pointer (some ⟨ab, 0, none⟩), .pointer (some ⟨fb, 0, none⟩), .pointer (some ⟨x, 0, none⟩), .slice (some ⟨ns, 0, none⟩) n cap, .int .u64 S.g0, .int .u64 S.g1, .int .u64 S.b0, .int .u64 S.b1]
  ex : Exc w wr x ab s kb n F S.xs S.L S.M S.k
  fe : Fee wr fb mb ab s n S.xs m S.f S.got
  nx : Beg wr ns 27 (S.nx.map (Value.int .u64))
  nl : S.nx.length = n
  nu : ∀ z ∈ S.nx, U z
  ug : U S.g0 ∧ U S.g1 ∧ U S.b0 ∧ U S.b1
  ne : l ≠ fb ∧ l ≠ mb ∧ l ≠ ns ∧ fb ≠ ns ∧ mb ≠ ns
  off : ∀ z ∈ [l, fb, mb, ns], z ∉ F ∧ z ≠ x ∧ z ≠ ab ∧ z ≠ s ∧ w.heap.size ≤ z
theorem Led.to {w' : World} {w wr : World} {l ab s fb mb x kb ns n : Nat} {F : List Nat} {m : Nat} {S : LS} (h : Led w wr l ab s fb mb x kb ns n F m S) (c : Chg [] wr w') : Led w w' l ab s fb mb x kb ns n F m S :=
  ⟨h.hd.imp fun cap g => ⟨g.1, g.2.1, g.2.2.chg c (by simp)⟩, h.ex.to c, h.fe.chg c (by simp) (by simp) (by simp) (by simp), h.nx.chg c (by simp), h.nl, h.nu, h.ug, h.ne, h.off⟩
theorem Led.lt {w wr : World} {l ab s fb mb x kb ns n : Nat} {F : List Nat} {m : Nat} {S : LS} (h : Led w wr l ab s fb mb x kb ns n F m S) : l < wr.heap.size ∧ fb < wr.heap.size ∧ mb < wr.heap.size ∧ ns < wr.heap.size := 
  ⟨h.hd.elim fun _ g => g.2.2.lt, h.fe.hd.lt, h.fe.mp.lt, h.nx.lt⟩
/-- The exchange has turned. -/
theorem Led.exch {w' : World} {F' : List Nat} {xs' : List Int} {L' M' : List Ord} {k' : Nat} {w wr : World} {l ab s fb mb x kb ns n : Nat} {F : List Nat} {m : Nat} {S : LS} (h : Led w wr l ab s fb mb x kb ns n F m S) (p : Exc w w' x ab s kb n F' xs' L' M' k') (c : Chg (x :: s :: F) wr w') (g : Grw wr.heap.size F F') : Led w w' l ab s fb mb x kb ns n F' m { S with xs := xs', L := L', M := M', k := k' } := by
  have hn : ∀ z ∈ [l, fb, mb, ns], z ∉ x :: s :: F := fun z hz => by
    have := h.off z hz
    simp
    exact ⟨this.2.1, this.2.2.2.1, this.1⟩
  obtain ⟨z1, z2, z3, z4⟩ := h.lt
  refine ⟨h.hd.imp fun cap g => ⟨g.1, g.2.1, g.2.2.chg c (hn _ (by simp))⟩, p, ⟨p.a, h.fe.hd.chg c (hn _ (by simp)), h.fe.mp.chg c (hn _ (by simp)), h.fe.ne, h.fe.ug⟩, h.nx.chg c (hn _ (by simp)), h.nl, h.nu, h.ug, h.ne, fun z hz => ?_⟩
  have h1 := h.off z hz
  refine ⟨fun hm => (g z hm).elim h1.1 fun e => ?_, h1.2⟩
  simp at hz
  rcases hz with rfl | rfl | rfl | rfl <;> omega
theorem Led.acct {w' : World} {xs' : List Int} {w wr : World} {l ab s fb mb x kb ns n : Nat} {F : List Nat} {m : Nat} {S : LS} (h : Led w wr l ab s fb mb x kb ns n F m S) (a : Acc w' ab s n xs') (c : Chg [s] wr w') : Led w w' l ab s fb mb x kb ns n F m { S with xs := xs' } :=
  h.exch (h.ex.acct a c) (c.mono (by simp)) (Grw.refl _ _)
/-- The fees have turned. -/
theorem Led.fee {w' : World} {xs' : List Int} {m' : Nat} {f' : Int → Int} {got' : Int} {w wr : World} {l ab s fb mb x kb ns n : Nat} {F : List Nat} {m : Nat} {S : LS} (h : Led w wr l ab s fb mb x kb ns n F m S) (p : Fee w' fb mb ab s n xs' m' f' got') (c : Chg [fb, mb, s] wr w') : Led w w' l ab s fb mb x kb ns n F m' { S with xs := xs', f := f', got := got' } := by
  have o1 := h.off fb (by simp)
  have o2 := h.off mb (by simp)
  have o3 := h.off l (by simp)
  have o4 := h.off ns (by simp)
  have e := h.ex.ne
  obtain ⟨n1, n2, n3, n4, n5⟩ := h.ne
  have hF : ∀ z ∈ [fb, mb, s], z ∉ F ∧ w.heap.size ≤ z := fun z hz => by
    simp at hz
    rcases hz with rfl | rfl | rfl
    · exact ⟨o1.1, o1.2.2.2.2⟩
    · exact ⟨o2.1, o2.2.2.2.2⟩
    · exact ⟨e.2.2.2.1, h.ex.lo.2.2⟩
  have hx : x ∉ [fb, mb, s] := by simp; exact ⟨fun q => o1.2.1 q.symm, fun q => o2.2.1 q.symm, e.1⟩
  have hl : l ∉ [fb, mb, s] := by simp; exact ⟨n1, n2, o3.2.2.2.1⟩
  have hs : ns ∉ [fb, mb, s] := by simp; exact ⟨fun q => n4 q.symm, fun q => n5 q.symm, o4.2.2.2.1⟩
  exact ⟨h.hd.imp fun cap g => ⟨g.1, g.2.1, g.2.2.chg c hl⟩, ⟨h.ex.e.chg c hx, p.acc, h.ex.b.asideL c (fun z hz => (hF z hz).1) (fun z hz => (hF z hz).2), h.ex.ne, h.ex.lo, h.ex.ok⟩, p, h.nx.chg c hs, h.nl, h.nu, h.ug, h.ne, h.off⟩
/-- A cell of the ledger's own has turned. -/
theorem Led.own {w' : World} {S' : LS} {w wr : World} {l ab s fb mb x kb ns n : Nat} {F : List Nat} {m : Nat} {S : LS} (h : Led w wr l ab s fb mb x kb ns n F m S) (b : ∃ cap, n ≤ cap ∧ cap ≤ maxLen ∧ Blk w' l 141 [.pointer (some ⟨ab, 0, none⟩), .pointer (some ⟨fb, 0, none⟩), .pointer (some ⟨x, 0, none⟩), .slice (some ⟨ns, 0, none⟩) n cap, .int .u64 S'.g0, .int .u64 S'.g1, .int .u64 S'.b0, .int .u64 S'.b1]) (c : Chg [l] wr w')
    (e : S'.xs = S.xs ∧ S'.f = S.f ∧ S'.got = S.got ∧ S'.L = S.L ∧ S'.M = S.M ∧ S'.k = S.k ∧ S'.nx = S.nx) (ug : U S'.g0 ∧ U S'.g1 ∧ U S'.b0 ∧ U S'.b1) : Led w w' l ab s fb mb x kb ns n F m S' := by
  obtain ⟨e1, e2, e3, e4, e5, e6, e7⟩ := e
  have o3 := h.off l (by simp)
  obtain ⟨n1, n2, n3, n4, n5⟩ := h.ne
  have q : ∀ z, z ≠ l → z ∉ [l] := fun z hz hm => hz (by simpa using hm)
  have hx := h.ex.asideL c (fun z hz => by simp at hz; subst hz; exact o3)
  have hf := h.fe.chg c (q _ n1.symm) (q _ n2.symm) (q _ o3.2.2.1.symm) (q _ o3.2.2.2.1.symm)
  exact ⟨b, by rw [e1, e4, e5, e6]; exact hx, by rw [e1, e2, e3]; exact hf, by rw [e7]; exact h.nx.chg c (q _ n3.symm), by rw [e7]; exact h.nl, by rw [e7]; exact h.nu, ug, h.ne, h.off⟩
/-- A client's next nonce has turned. -/
theorem Led.next {w' : World} {w wr : World} {l ab s fb mb x kb ns n : Nat} {F : List Nat} {m : Nat} {S : LS} (h : Led w wr l ab s fb mb x kb ns n F m S) (i : Nat) (v : Int) (hv : U v) (b : Beg w' ns 27 ((S.nx.set i v).map (Value.int .u64))) (c : Chg [ns] wr w') : Led w w' l ab s fb mb x kb ns n F m { S with nx := S.nx.set i v } := by
  have o3 := h.off ns (by simp)
  obtain ⟨n1, n2, n3, n4, n5⟩ := h.ne
  have q : ∀ z, z ≠ ns → z ∉ [ns] := fun z hz hm => hz (by simpa using hm)
  have hx := h.ex.asideL c (fun z hz => by simp at hz; subst hz; exact o3)
  exact ⟨h.hd.imp fun cap g => ⟨g.1, g.2.1, g.2.2.chg c (q _ n3)⟩, hx, h.fe.chg c (q _ n4) (q _ n5) (q _ o3.2.2.1.symm) (q _ o3.2.2.2.1.symm), b, by simp [h.nl], fun z hz => by rcases List.mem_or_eq_of_mem_set hz with h1 | h1; exact h.nu _ h1; exact h1 ▸ hv, h.ug, h.ne, h.off⟩
theorem take_is' {w : World} {b s n : Nat} {xs : List Int} (h : Acc w b s n xs) (c a v : Int) (hv : U v) :
    Calls Tryz.prog 126 #[.pointer (some ⟨b, 0, none⟩), .int .i64 c, .int .i64 a, .int .u64 v] w fun e w' => e = .returned (.int .i64 (aTakeE n xs c a v)) ∧ Acc w' b s n (aTake n xs c a v) ∧ Chg [s] w w' := take_is h c a v _ _ hv rfl rfl
end Go.Proofs.YteabcpmpcbjicaaGreat

namespace Go.Proofs.YteabcpmpcbjicaaGreat
set_option linter.unusedVariables false
open Go Go.Proofs Go.RowKit

/-! The plain law of fees. -/
def Zf : Int → Int := fun _ => 0
theorem upd_zero (c : Int) : upd Zf c 0 = Zf := by
  funext x; unfold upd Zf; split <;> rfl
theorem upd_at (f : Int → Int) (c v : Int) : upd f c v c = v := by simp [upd]
theorem upd_upd (f : Int → Int) (c v u : Int) : upd (upd f c v) c u = upd f c u := by
  funext x; unfold upd; split <;> rfl
theorem lHeld_none (n : Nat) (S : LS) (e : Ent) (h : aHas n e.client = false) : lHeld n S e = S := by
  have h1 : hOk n S.xs S.f e.client e.fee = false := by
    unfold hOk aTakeE aErr
    rw [h]
    simp
  unfold lHeld hHoldX hHoldF
  rw [h1]
  rfl
theorem lHeld_some (n : Nat) (S : LS) (e : Ent) (h : aHas n e.client = true) (hf : S.f = Zf) (hok : AOk n S.xs) (h0 : 0 ≤ e.fee) :
    lHeld n S e = { S with xs := S.xs.set (aAt e.client 1) (aGet S.xs e.client 1 - min e.fee (aGet S.xs e.client 1)), f := upd Zf e.client (min e.fee (aGet S.xs e.client 1)) } := by
  have hg := hok.get e.client 1
  have hE : aErr n e.client 1 = 0 := by unfold aErr; rw [h]; rfl
  have hv : hV n S.xs e.client e.fee = min e.fee (aGet S.xs e.client 1) := by unfold hV aFree; rw [hE]; rfl
  have hm : 0 ≤ min e.fee (aGet S.xs e.client 1) ∧ min e.fee (aGet S.xs e.client 1) ≤ aGet S.xs e.client 1 := ⟨by have := hg.1; omega, by omega⟩
  obtain ⟨v, hvv⟩ : ∃ v, min e.fee (aGet S.xs e.client 1) = v := ⟨_, rfl⟩
  rw [hvv] at hv hm ⊢
  have hS : cSubB (aGet S.xs e.client 1) v = true := by unfold cSubB; simp; omega
  have hT : aTakeE n S.xs e.client 1 v = 0 := by unfold aTakeE; rw [hE, hS]; rfl
  have hO : hOk n S.xs S.f e.client e.fee = true := by
    unfold hOk
    rw [hv, hf, hT]
    have := hg.2
    unfold cAddB Zf
    simp
    omega
  unfold lHeld hHoldX hHoldF
  rw [hO, hv]
  simp only [if_true]
  unfold aTake
  rw [hT, hf]
  have e1 : cSubN (aGet S.xs e.client 1) v = aGet S.xs e.client 1 - v := by unfold cSubN; split <;> omega
  have e2 : cAddN (Zf e.client) v = v := by have := hg.2; unfold cAddN Zf; split <;> omega
  rw [e1, e2]
  rfl
/-- The end of what was done. -/
theorem lEnd_ok (n : Nat) (S : LS) (r : Rcp) (c h : Int) (hr : r.code = 0) (hh : aHas n c = true) (hf : S.f = upd Zf c h) (hok : AOk n S.xs) (h0 : 0 ≤ h) (hg0 : 0 ≤ S.got) (hg : S.got + h < 18446744073709551616) (hx : aGet S.xs c 1 + h < 18446744073709551616) :
    lEnd n (S, r) c = ({ S with xs := S.xs.set (aAt c 1) (aGet S.xs c 1 + (h - min 1 h)), f := Zf, got := S.got + min 1 h }, { r with paid := min 1 h }) := by
  have hgt := hok.get c 1
  have hE : aErr n c 1 = 0 := by unfold aErr; rw [hh]; rfl
  have hc : S.f c = h := by rw [hf]; exact upd_at _ _ _
  obtain ⟨p, hp⟩ : ∃ p, min 1 h = p := ⟨_, rfl⟩
  have hpp : 0 ≤ p ∧ p ≤ h := by omega
  have hB : cAddB S.got p = true := by unfold cAddB; simp; omega
  have hV : sV S.f S.got c 1 = p := by unfold sV; rw [hc, hp, hB]; rfl
  have hG : sGot S.f S.got c 1 = S.got + p := by unfold sGot; rw [hc, hp, hB]; unfold cAddN; simp; omega
  have hK : sBack S.f S.got c 1 = h - p := by unfold sBack; rw [hV, hc]
  have hB2 : cAddB (aGet S.xs c 1) (h - p) = true := by unfold cAddB; simp; omega
  have hP : aPutE n S.xs c 1 (h - p) = 0 := by unfold aPutE; rw [hE, hB2]; rfl
  have hX : sX n S.xs S.f S.got c 1 = S.xs.set (aAt c 1) (aGet S.xs c 1 + (h - p)) := by
    unfold sX aPut
    rw [hK, hP]
    have : cAddN (aGet S.xs c 1) (h - p) = aGet S.xs c 1 + (h - p) := by unfold cAddN; split <;> omega
    rw [this]
    rfl
  have hF : sF n S.xs S.f S.got c 1 = Zf := by
    unfold sF
    rw [hK, hP, hf, upd_upd, upd_upd, upd_zero]
    rfl
  unfold lEnd
  dsimp only
  rw [if_pos hr, hX, hF, hG, hV, hp]
theorem lEnd_bad (n : Nat) (S : LS) (r : Rcp) (c h : Int) (hr : r.code ≠ 0) (hf : S.f = upd Zf c h) (h0 : 0 ≤ h) (hg0 : 0 ≤ S.got) (hg : S.got + h < 18446744073709551616) :
    lEnd n (S, r) c = ({ S with f := Zf, got := S.got + h }, { r with paid := h }) := by
  have hc : S.f c = h := by rw [hf]; exact upd_at _ _ _
  have hB : cAddB S.got h = true := by unfold cAddB; simp; omega
  have hV : fV S.f S.got c = h := by unfold fV; rw [hc, hB]; rfl
  have hG : fGot S.f S.got c = S.got + h := by unfold fGot; rw [hc, hB]; unfold cAddN; simp; omega
  have hF : fF S.f S.got c = Zf := by unfold fF; rw [hc, hB, hf, upd_upd, upd_zero]; rfl
  unfold lEnd
  dsimp only
  rw [if_neg hr, hV, hF, hG]
end Go.Proofs.YteabcpmpcbjicaaGreat

namespace Go.Proofs.YteabcpmpcbjicaaGreat
set_option linter.unusedVariables false
open Go Go.Proofs Go.RowKit
attribute [local go_sem ↓] Go.wp_at_zero Go.wp_at_succ

theorem qEq {P : Program} {f : FuncId} {args : Array Value} {w : World} {n : Nat} {v : Value}
    (h : Calls P f args (w.drewN n) fun e w' => e = .returned v ∧ w.drewN n = w') : Calls P f args (w.drewN n) fun e w'' => e = .returned v ∧ ∃ m, w'' = w.drewN m :=
  h.mono fun _ _ ⟨he, hm⟩ => ⟨he, n, hm.symm⟩
/-- No block of a ledger. -/
structure Lfar (z w0 : Nat) (l ab s fb mb x ns : Nat) (F : List Nat) : Prop where
  l : z ≠ l
  ab : z ≠ ab
  s : z ≠ s
  fb : z ≠ fb
  mb : z ≠ mb
  x : z ≠ x
  ns : z ≠ ns
  f : z ∉ F
  lo : w0 ≤ z
theorem Led.old {w wr : World} {l ab s fb mb x kb ns n : Nat} {F : List Nat} {m : Nat} {S : LS} (h : Led w wr l ab s fb mb x kb ns n F m S) {z : Nat} (hz : wr.heap.size ≤ z) : Lfar z w.heap.size l ab s fb mb x ns F := by
  obtain ⟨z1, z2, z3, z4⟩ := h.lt
  obtain ⟨y1, y2, y3, y4, y5⟩ := h.ex.lt
  exact ⟨by omega, by omega, by omega, by omega, by omega, by omega, by omega, fun hm => by have := y5 _ hm; omega, by omega⟩
theorem Led.fresh {w' : World} {g : Nat} {w wr : World} {l ab s fb mb x kb ns n : Nat} {F : List Nat} {m : Nat} {S : LS} (h : Led w wr l ab s fb mb x kb ns n F m S) (c : Chg [g] wr w') (q : Lfar g w.heap.size l ab s fb mb x ns F) : Led w w' l ab s fb mb x kb ns n F m S := by
  have k : ∀ z, g ≠ z → z ∉ [g] := fun z hz hm => hz (List.mem_singleton.1 hm).symm
  exact ⟨h.hd.imp fun cap e => ⟨e.1, e.2.1, e.2.2.chg c (k _ q.l)⟩, h.ex.asideL c (fun z hz => by simp at hz; subst hz; exact ⟨q.f, q.x, q.ab, q.s, q.lo⟩), h.fe.chg c (k _ q.fb) (k _ q.mb) (k _ q.ab) (k _ q.s), h.nx.chg c (k _ q.ns), h.nl, h.nu, h.ug, h.ne, h.off⟩
theorem Lfar.grow {z w0 : Nat} {l ab s fb mb x ns : Nat} {F F' : List Nat} {k : Nat} (h : Lfar z w0 l ab s fb mb x ns F) (g : Grw k F F') (hz : z < k) : Lfar z w0 l ab s fb mb x ns F' := ⟨h.l, h.ab, h.s, h.fb, h.mb, h.x, h.ns, fun hm => (g z hm).elim h.f fun e => by omega, h.lo⟩
/-- A receipt's cells. -/
def stoR (w : World) (g : Nat) (c p i : Int) (a : Option Addr) (n k : Nat) : World := (((w.setCell ⟨g, 0, none⟩ (.int .i64 c)).setCell ⟨g, 1, none⟩ (.int .u64 p)).setCell ⟨g, 2, none⟩ (.int .i64 i)).setCell ⟨g, 3, none⟩ (.slice a n k)
theorem stoR_chg {S : List Nat} {a w : World} (h : Chg S a w) (g : Nat) (c p i : Int) (b : Option Addr) (n k : Nat) (hs : g ∈ S ∨ a.heap.size ≤ g) : Chg S a (stoR w g c p i b n k) :=
  (((h.setCell _ _ hs).setCell _ _ hs).setCell _ _ hs).setCell _ _ hs
/-- What an act tells and leaves. -/
def ActR (w wr : World) (l ab s fb mb x kb ns n : Nat) (F : List Nat) (m : Nat) (r : LS × Rcp) (e : Ending) (w' : World) : Prop :=
  ∃ a cap F', e = .returned (rcv r.2 a r.2.T.length cap) ∧ NewF tc w' wr.heap.size 99 a r.2.T ∧ Led w w' l ab s fb mb x kb ns n F' m r.1 ∧ Chg (l :: ns :: x :: s :: F) wr w' ∧ Grw wr.heap.size F F'
theorem ActR.of {w wr w' : World} {l ab s fb mb x kb ns n : Nat} {F : List Nat} {m : Nat} {S' : LS} {c : Int} {T : List Nat} (h : Led w w' l ab s fb mb x kb ns n F m S') (k : Chg T wr w') (hT : ∀ z ∈ T, z ∈ l :: ns :: x :: s :: F) : ActR w wr l ab s fb mb x kb ns n F m (S', no c) (.returned (rcv (no c) none 0 0)) w' :=
  ⟨none, 0, F, rfl, .inl rfl, h, k.mono hT, Grw.refl _ _⟩
set_option maxRecDepth 100000 in
set_option maxHeartbeats 2000000 in
theorem dep0 {w wr : World} {l ab s fb mb x kb ns n : Nat} {F : List Nat} {m : Nat} {S : LS} (h : Led w wr l ab s fb mb x kb ns n F m S) (c : Int) (t : Txx) (ht : t.Ok) (ha : t.asset = 0) :
    Calls Tryz.prog 163 #[.pointer (some ⟨l, 0, none⟩), .int .i64 c, txv t] wr fun e w' => ActR w wr l ab s fb mb x kb ns n F m (lDep n S c t) e w' := by
  obtain ⟨kd, ax, td, by', p, q, i⟩ := t
  obtain ⟨tk, ta, tt, tp, tq, ti⟩ := ht
  dsimp only at ha; subst ha
  dsimp only at tk ta tt tp tq ti 
  have hC : Chg [] wr ((wr.alloc (.cells #[.int .i64 kd, .int .i64 0, .int .i64 td, .bool by', .int .u64 p, .int .u64 q, .int .i64 i] 49)).alloc (.cells #[.int .i64 0, .int .u64 0, .int .i64 0, .slice none 0 0] 46)) := ((Chg.refl _ _).alloc _).alloc _
  have h1 := h.to hC
  have hT : Blk ((wr.alloc (.cells #[.int .i64 kd, .int .i64 0, .int .i64 td, .bool by', .int .u64 p, .int .u64 q, .int .i64 i] 49)).alloc (.cells #[.int .i64 0, .int .u64 0, .int .i64 0, .slice none 0 0] 46)) wr.heap.size 49 (txc ⟨kd, 0, td, by', p, q, i⟩) := (Blk.new wr (txc ⟨kd, 0, td, by', p, q, i⟩) 49).alloc _
  have hR : Blk ((wr.alloc (.cells #[.int .i64 kd, .int .i64 0, .int .i64 td, .bool by', .int .u64 p, .int .u64 q, .int .i64 i] 49)).alloc (.cells #[.int .i64 0, .int .u64 0, .int .i64 0, .slice none 0 0] 46)) (wr.heap.size + 1) 46 [.int .i64 0, .int .u64 0, .int .i64 0, .slice none 0 0] := by
    have := Blk.new (wr.alloc (.cells #[.int .i64 kd, .int .i64 0, .int .i64 td, .bool by', .int .u64 p, .int .u64 q, .int .i64 i] 49)) [.int .i64 0, .int .u64 0, .int .i64 0, .slice none 0 0] 46
    rwa [World.size_alloc] at this
  have HC := Lib.hid hC
  have o1 := Lib.hid (h.old (z := wr.heap.size + 1) (by omega))
  have o0 := Lib.hid (h.old (z := wr.heap.size) (by omega))
  have hgl : wr.heap.size + 1 < ((wr.alloc (.cells #[.int .i64 kd, .int .i64 0, .int .i64 td, .bool by', .int .u64 p, .int .u64 q, .int .i64 i] 49)).alloc (.cells #[.int .i64 0, .int .u64 0, .int .i64 0, .slice none 0 0] 46)).heap.size := hR.lt
  have HW0 : Hid (∀ z, z = wr.heap.size + 1 → wr.heap.size ≤ z) := fun z e => by omega
  clear h hC
  go_enter Tryz.func163, Tryz.ntmps163
  go_upto_region 1 with (fail)
  generalize hgg : wr.heap.size + 1 = g1 at *
  generalize hg0 : wr.heap.size = g at *
  generalize (wr.alloc _).alloc _ = W at *
  have HGG := Lib.hid hgg
  have HG0 := Lib.hid hg0
  clear hgg
  have HW1 : Hid (wr.heap.size ≤ g1) := by show wr.heap.size ≤ g1; rw [HG0.out]; exact HW0.out g1 rfl
  have y1 := hT.at (i := 1) rfl
  have y5 := hT.at (i := 5) rfl
  obtain ⟨cap, hcap, hcap2, hd⟩ := h1.hd
  have d4 := hd.at (i := 4) rfl
  have ug := h1.ug
  have HEQ : Hid (lDep n S c ⟨kd, 0, td, by', p, q, i⟩ = if (cAddB S.g0 q && decide (cAddN S.g0 q ≤ 4611686018427387904)) = true then ({ S with xs := aPut n S.xs c 0 q, g0 := cAddN S.g0 q }, no 0) else (S, no 4)) := rfl
  go_quiet ((go_at_call 125; exact qEq (add_any _ _ _ ug.1 tq)))
  have h2 := h1.to ((Chg.refl [] _).drewN nq)
  have hT2 := hT.chg ((Chg.refl [] _).drewN nq) (by simp)
  have hR2 := hR.chg ((Chg.refl [] _).drewN nq) (by simp)
  have hd2 := hd.chg ((Chg.refl [] _).drewN nq) (by simp)
  have HC2 := Lib.hid (HC.out.drewN nq)
  have HUG := Lib.hid ug
  clear y1 y5 d4 h1 hT hR hd HC ug
  generalize W.drewN nq = V at *
  cases hb : cAddB S.g0 q
  · have HB := Lib.hid hb
    have r0 := hR2.at (i := 0) rfl
    have f0 := hR2.free 0
    have r1 := hR2.at (i := 1) rfl
    have f1 := hR2.free 1
    have r2 := hR2.at (i := 2) rfl
    have f2 := hR2.free 2
    have r3 := hR2.at (i := 3) rfl
    have f3 := hR2.free 3
    have hz := h2.fresh (stoR_chg (Chg.refl [g1] V) g1 4 0 0 none 0 0 (.inl (by simp))) o1.out
    have hcz := stoR_chg HC2.out g1 4 0 0 none 0 0 (.inr (HW1.out))
    go_wp2_with fail
    exact bodyPost_ret (v := rcv (no 4) none 0 0) (by simp [results, Tryz.results163, go_sem, r0, r1, r2, r3, rcv, no]) rfl (by rw [HEQ.out, HB.out]; exact ActR.of hz hcz (by simp))
  · by_cases hle : cAddN S.g0 q ≤ 4611686018427387904
    · have dle : decide (4611686018427387904 < cAddN S.g0 q) = false := by simp; omega
      have HB := Lib.hid (And.intro hb hle)
      clear hle
      have y1 := hT2.at (i := 1) rfl
      go_upto_region 4 with (fail)
      go_still_tail 7, (by kernel_rfl)
      change wpList _ _ _ _ _ V.drew
      have h3 := h2.to (Chg.refl [] V).drew
      have hT3 := hT2.drew
      have hR3 := hR2.drew
      have hd3 := hd2.drew
      have C3 := Lib.hid HC2.out.drew
      clear y1 h2 hT2 hR2 hd2 HC2 dle
      generalize V.drew = V3 at *
      have fl := hd3.free 4
      have gd := hd3.at (i := 4) rfl
      go_upto_region 5 with (fail)
      have cs : Chg [l] V3 (V3.setCell ⟨l, 4, none⟩ (.int .u64 (cAddN S.g0 q))) := (Chg.refl _ _).setCell _ _ (by simp)
      have h4 : Led w (V3.setCell ⟨l, 4, none⟩ (.int .u64 (cAddN S.g0 q))) l ab s fb mb x kb ns n F m { S with g0 := cAddN S.g0 q } := h3.own ⟨cap, hcap, hcap2, hd3.set 4 _⟩ cs ⟨rfl, rfl, rfl, rfl, rfl, rfl, rfl⟩ ⟨cAdd_U HUG.out.1 tq, HUG.out.2⟩
      have hT4 := hT3.chg cs (by simp; exact o0.out.l)
      have hR4 := hR3.chg cs (by simp; exact o1.out.l)
      have C4 := Lib.hid ((C3.out.mono (R := l :: ns :: x :: s :: F) (by simp)).trans (cs.mono (by simp)))
      clear h3 hT3 hR3 hd3 C3 fl gd cs
      generalize V3.setCell _ _ = V4 at *
      have y1 := hT4.at (i := 1) rfl
      have y5 := hT4.at (i := 5) rfl
      obtain ⟨cap4, _, _, hd4⟩ := h4.hd
      have d0 := hd4.at (i := 0) rfl
      go_still_tail 9, (by kernel_rfl)
      change wpList _ _ _ _ _ V4.drew
      have h5 := h4.to (Chg.refl [] V4).drew
      have hR5 := hR4.drew
      have C5 := Lib.hid C4.out.drew
      clear y1 y5 d0 h4 hT4 hR4 C4 hd4
      generalize V4.drew = V5 at *
      go_wp2_with fail
      refine (put_is h5.ex.a c 0 q _ _ tq rfl rfl).mono ?_
      rintro e w6 ⟨rfl, ha6, c6⟩
      have h6 := h5.acct ha6 c6
      have hR6 := hR5.chg c6 (by simp; exact o1.out.s)
      have C6 := Lib.hid (C5.out.trans (c6.mono (by simp)))
      clear h5 hR5 C5 ha6 c6
      have r0 := hR6.at (i := 0) rfl
      have f0 := hR6.free 0
      have r1 := hR6.at (i := 1) rfl
      have f1 := hR6.free 1
      have r2 := hR6.at (i := 2) rfl
      have f2 := hR6.free 2
      have r3 := hR6.at (i := 3) rfl
      have f3 := hR6.free 3
      have hz := h6.fresh (stoR_chg (Chg.refl [g1] w6) g1 0 0 0 none 0 0 (.inl (by simp))) o1.out
      have hcz := stoR_chg C6.out g1 0 0 0 none 0 0 (.inr (HW1.out))
      go_wp2_with fail
      exact bodyPost_ret (v := rcv (no 0) none 0 0) (by simp [results, Tryz.results163, go_sem, r0, r1, r2, r3, rcv, no]) rfl (by rw [HEQ.out, if_pos (by rw [HB.out.1, decide_eq_true HB.out.2]; rfl)]; exact ActR.of hz hcz (by simp))
    · have dle : decide (4611686018427387904 < cAddN S.g0 q) = true := by simp; omega
      have HB := Lib.hid (And.intro hb hle)
      clear hle
      have r0 := hR2.at (i := 0) rfl
      have f0 := hR2.free 0
      have r1 := hR2.at (i := 1) rfl
      have f1 := hR2.free 1
      have r2 := hR2.at (i := 2) rfl
      have f2 := hR2.free 2
      have r3 := hR2.at (i := 3) rfl
      have f3 := hR2.free 3
      have hz := h2.fresh (stoR_chg (Chg.refl [g1] V) g1 4 0 0 none 0 0 (.inl (by simp))) o1.out
      have hcz := stoR_chg HC2.out g1 4 0 0 none 0 0 (.inr (HW1.out))
      go_wp2_with fail
      exact bodyPost_ret (v := rcv (no 4) none 0 0) (by simp [results, Tryz.results163, go_sem, r0, r1, r2, r3, rcv, no]) rfl (by rw [HEQ.out, if_neg (by rw [HB.out.1]; simp; exact HB.out.2)]; exact ActR.of hz hcz (by simp))
set_option maxRecDepth 100000 in
set_option maxHeartbeats 2000000 in
theorem dep1 {w wr : World} {l ab s fb mb x kb ns n : Nat} {F : List Nat} {m : Nat} {S : LS} (h : Led w wr l ab s fb mb x kb ns n F m S) (c : Int) (t : Txx) (ht : t.Ok) (ha : t.asset = 1) :
    Calls Tryz.prog 163 #[.pointer (some ⟨l, 0, none⟩), .int .i64 c, txv t] wr fun e w' => ActR w wr l ab s fb mb x kb ns n F m (lDep n S c t) e w' := by
  obtain ⟨kd, ax, td, by', p, q, i⟩ := t
  obtain ⟨tk, ta, tt, tp, tq, ti⟩ := ht
  dsimp only at ha; subst ha
  dsimp only at tk ta tt tp tq ti 
  have hC : Chg [] wr ((wr.alloc (.cells #[.int .i64 kd, .int .i64 1, .int .i64 td, .bool by', .int .u64 p, .int .u64 q, .int .i64 i] 49)).alloc (.cells #[.int .i64 0, .int .u64 0, .int .i64 0, .slice none 0 0] 46)) := ((Chg.refl _ _).alloc _).alloc _
  have h1 := h.to hC
  have hT : Blk ((wr.alloc (.cells #[.int .i64 kd, .int .i64 1, .int .i64 td, .bool by', .int .u64 p, .int .u64 q, .int .i64 i] 49)).alloc (.cells #[.int .i64 0, .int .u64 0, .int .i64 0, .slice none 0 0] 46)) wr.heap.size 49 (txc ⟨kd, 1, td, by', p, q, i⟩) := (Blk.new wr (txc ⟨kd, 1, td, by', p, q, i⟩) 49).alloc _
  have hR : Blk ((wr.alloc (.cells #[.int .i64 kd, .int .i64 1, .int .i64 td, .bool by', .int .u64 p, .int .u64 q, .int .i64 i] 49)).alloc (.cells #[.int .i64 0, .int .u64 0, .int .i64 0, .slice none 0 0] 46)) (wr.heap.size + 1) 46 [.int .i64 0, .int .u64 0, .int .i64 0, .slice none 0 0] := by
    have := Blk.new (wr.alloc (.cells #[.int .i64 kd, .int .i64 1, .int .i64 td, .bool by', .int .u64 p, .int .u64 q, .int .i64 i] 49)) [.int .i64 0, .int .u64 0, .int .i64 0, .slice none 0 0] 46
    rwa [World.size_alloc] at this
  have HC := Lib.hid hC
  have o1 := Lib.hid (h.old (z := wr.heap.size + 1) (by omega))
  have o0 := Lib.hid (h.old (z := wr.heap.size) (by omega))
  have hgl : wr.heap.size + 1 < ((wr.alloc (.cells #[.int .i64 kd, .int .i64 1, .int .i64 td, .bool by', .int .u64 p, .int .u64 q, .int .i64 i] 49)).alloc (.cells #[.int .i64 0, .int .u64 0, .int .i64 0, .slice none 0 0] 46)).heap.size := hR.lt
  have HW0 : Hid (∀ z, z = wr.heap.size + 1 → wr.heap.size ≤ z) := fun z e => by omega
  clear h hC
  go_enter Tryz.func163, Tryz.ntmps163
  go_upto_region 1 with (fail)
  generalize hgg : wr.heap.size + 1 = g1 at *
  generalize hg0 : wr.heap.size = g at *
  generalize (wr.alloc _).alloc _ = W at *
  have HGG := Lib.hid hgg
  have HG0 := Lib.hid hg0
  clear hgg
  have HW1 : Hid (wr.heap.size ≤ g1) := by show wr.heap.size ≤ g1; rw [HG0.out]; exact HW0.out g1 rfl
  have y1 := hT.at (i := 1) rfl
  have y5 := hT.at (i := 5) rfl
  obtain ⟨cap, hcap, hcap2, hd⟩ := h1.hd
  have d5 := hd.at (i := 5) rfl
  have ug := h1.ug
  have HEQ : Hid (lDep n S c ⟨kd, 1, td, by', p, q, i⟩ = if (cAddB S.g1 q && decide (cAddN S.g1 q ≤ 4611686018427387904)) = true then ({ S with xs := aPut n S.xs c 1 q, g1 := cAddN S.g1 q }, no 0) else (S, no 4)) := rfl
  go_quiet ((go_at_call 125; exact qEq (add_any _ _ _ ug.2.1 tq)))
  have h2 := h1.to ((Chg.refl [] _).drewN nq)
  have hT2 := hT.chg ((Chg.refl [] _).drewN nq) (by simp)
  have hR2 := hR.chg ((Chg.refl [] _).drewN nq) (by simp)
  have hd2 := hd.chg ((Chg.refl [] _).drewN nq) (by simp)
  have HC2 := Lib.hid (HC.out.drewN nq)
  have HUG := Lib.hid ug
  clear y1 y5 d5 h1 hT hR hd HC ug
  generalize W.drewN nq = V at *
  cases hb : cAddB S.g1 q
  · have HB := Lib.hid hb
    have r0 := hR2.at (i := 0) rfl
    have f0 := hR2.free 0
    have r1 := hR2.at (i := 1) rfl
    have f1 := hR2.free 1
    have r2 := hR2.at (i := 2) rfl
    have f2 := hR2.free 2
    have r3 := hR2.at (i := 3) rfl
    have f3 := hR2.free 3
    have hz := h2.fresh (stoR_chg (Chg.refl [g1] V) g1 4 0 0 none 0 0 (.inl (by simp))) o1.out
    have hcz := stoR_chg HC2.out g1 4 0 0 none 0 0 (.inr (HW1.out))
    go_wp2_with fail
    exact bodyPost_ret (v := rcv (no 4) none 0 0) (by simp [results, Tryz.results163, go_sem, r0, r1, r2, r3, rcv, no]) rfl (by rw [HEQ.out, HB.out]; exact ActR.of hz hcz (by simp))
  · by_cases hle : cAddN S.g1 q ≤ 4611686018427387904
    · have dle : decide (4611686018427387904 < cAddN S.g1 q) = false := by simp; omega
      have HB := Lib.hid (And.intro hb hle)
      clear hle
      have y1 := hT2.at (i := 1) rfl
      go_upto_region 4 with (fail)
      go_still_tail 7, (by kernel_rfl)
      change wpList _ _ _ _ _ V.drew
      have h3 := h2.to (Chg.refl [] V).drew
      have hT3 := hT2.drew
      have hR3 := hR2.drew
      have hd3 := hd2.drew
      have C3 := Lib.hid HC2.out.drew
      clear y1 h2 hT2 hR2 hd2 HC2 dle
      generalize V.drew = V3 at *
      have fl := hd3.free 5
      have gd := hd3.at (i := 5) rfl
      go_upto_region 5 with (fail)
      have cs : Chg [l] V3 (V3.setCell ⟨l, 5, none⟩ (.int .u64 (cAddN S.g1 q))) := (Chg.refl _ _).setCell _ _ (by simp)
      have h4 : Led w (V3.setCell ⟨l, 5, none⟩ (.int .u64 (cAddN S.g1 q))) l ab s fb mb x kb ns n F m { S with g1 := cAddN S.g1 q } := h3.own ⟨cap, hcap, hcap2, hd3.set 5 _⟩ cs ⟨rfl, rfl, rfl, rfl, rfl, rfl, rfl⟩ ⟨HUG.out.1, cAdd_U HUG.out.2.1 tq, HUG.out.2.2⟩
      have hT4 := hT3.chg cs (by simp; exact o0.out.l)
      have hR4 := hR3.chg cs (by simp; exact o1.out.l)
      have C4 := Lib.hid ((C3.out.mono (R := l :: ns :: x :: s :: F) (by simp)).trans (cs.mono (by simp)))
      clear h3 hT3 hR3 hd3 C3 fl gd cs
      generalize V3.setCell _ _ = V4 at *
      have y1 := hT4.at (i := 1) rfl
      have y5 := hT4.at (i := 5) rfl
      obtain ⟨cap4, _, _, hd4⟩ := h4.hd
      have d0 := hd4.at (i := 0) rfl
      go_still_tail 9, (by kernel_rfl)
      change wpList _ _ _ _ _ V4.drew
      have h5 := h4.to (Chg.refl [] V4).drew
      have hR5 := hR4.drew
      have C5 := Lib.hid C4.out.drew
      clear y1 y5 d0 h4 hT4 hR4 C4 hd4
      generalize V4.drew = V5 at *
      go_wp2_with fail
      refine (put_is h5.ex.a c 1 q _ _ tq rfl rfl).mono ?_
      rintro e w6 ⟨rfl, ha6, c6⟩
      have h6 := h5.acct ha6 c6
      have hR6 := hR5.chg c6 (by simp; exact o1.out.s)
      have C6 := Lib.hid (C5.out.trans (c6.mono (by simp)))
      clear h5 hR5 C5 ha6 c6
      have r0 := hR6.at (i := 0) rfl
      have f0 := hR6.free 0
      have r1 := hR6.at (i := 1) rfl
      have f1 := hR6.free 1
      have r2 := hR6.at (i := 2) rfl
      have f2 := hR6.free 2
      have r3 := hR6.at (i := 3) rfl
      have f3 := hR6.free 3
      have hz := h6.fresh (stoR_chg (Chg.refl [g1] w6) g1 0 0 0 none 0 0 (.inl (by simp))) o1.out
      have hcz := stoR_chg C6.out g1 0 0 0 none 0 0 (.inr (HW1.out))
      go_wp2_with fail
      exact bodyPost_ret (v := rcv (no 0) none 0 0) (by simp [results, Tryz.results163, go_sem, r0, r1, r2, r3, rcv, no]) rfl (by rw [HEQ.out, if_pos (by rw [HB.out.1, decide_eq_true HB.out.2]; rfl)]; exact ActR.of hz hcz (by simp))
    · have dle : decide (4611686018427387904 < cAddN S.g1 q) = true := by simp; omega
      have HB := Lib.hid (And.intro hb hle)
      clear hle
      have r0 := hR2.at (i := 0) rfl
      have f0 := hR2.free 0
      have r1 := hR2.at (i := 1) rfl
      have f1 := hR2.free 1
      have r2 := hR2.at (i := 2) rfl
      have f2 := hR2.free 2
      have r3 := hR2.at (i := 3) rfl
      have f3 := hR2.free 3
      have hz := h2.fresh (stoR_chg (Chg.refl [g1] V) g1 4 0 0 none 0 0 (.inl (by simp))) o1.out
      have hcz := stoR_chg HC2.out g1 4 0 0 none 0 0 (.inr (HW1.out))
      go_wp2_with fail
      exact bodyPost_ret (v := rcv (no 4) none 0 0) (by simp [results, Tryz.results163, go_sem, r0, r1, r2, r3, rcv, no]) rfl (by rw [HEQ.out, if_neg (by rw [HB.out.1]; simp; exact HB.out.2)]; exact ActR.of hz hcz (by simp))
set_option maxRecDepth 100000 in
set_option maxHeartbeats 2000000 in
theorem wd0 {w wr : World} {l ab s fb mb x kb ns n : Nat} {F : List Nat} {m : Nat} {S : LS} (h : Led w wr l ab s fb mb x kb ns n F m S) (c : Int) (t : Txx) (ht : t.Ok) (ha : t.asset = 0) :
    Calls Tryz.prog 164 #[.pointer (some ⟨l, 0, none⟩), .int .i64 c, txv t] wr fun e w' => ActR w wr l ab s fb mb x kb ns n F m (lWd n S c t) e w' := by
  obtain ⟨kd, ax, td, by', p, q, i⟩ := t
  obtain ⟨tk, ta, tt, tp, tq, ti⟩ := ht
  dsimp only at ha; subst ha
  dsimp only at tk ta tt tp tq ti 
  have hC : Chg [] wr ((wr.alloc (.cells #[.int .i64 kd, .int .i64 0, .int .i64 td, .bool by', .int .u64 p, .int .u64 q, .int .i64 i] 49)).alloc (.cells #[.int .i64 0, .int .u64 0, .int .i64 0, .slice none 0 0] 46)) := ((Chg.refl _ _).alloc _).alloc _
  have h1 := h.to hC
  have hT : Blk ((wr.alloc (.cells #[.int .i64 kd, .int .i64 0, .int .i64 td, .bool by', .int .u64 p, .int .u64 q, .int .i64 i] 49)).alloc (.cells #[.int .i64 0, .int .u64 0, .int .i64 0, .slice none 0 0] 46)) wr.heap.size 49 (txc ⟨kd, 0, td, by', p, q, i⟩) := (Blk.new wr (txc ⟨kd, 0, td, by', p, q, i⟩) 49).alloc _
  have hR : Blk ((wr.alloc (.cells #[.int .i64 kd, .int .i64 0, .int .i64 td, .bool by', .int .u64 p, .int .u64 q, .int .i64 i] 49)).alloc (.cells #[.int .i64 0, .int .u64 0, .int .i64 0, .slice none 0 0] 46)) (wr.heap.size + 1) 46 [.int .i64 0, .int .u64 0, .int .i64 0, .slice none 0 0] := by
    have := Blk.new (wr.alloc (.cells #[.int .i64 kd, .int .i64 0, .int .i64 td, .bool by', .int .u64 p, .int .u64 q, .int .i64 i] 49)) [.int .i64 0, .int .u64 0, .int .i64 0, .slice none 0 0] 46
    rwa [World.size_alloc] at this
  have HC := Lib.hid hC
  have o1 := Lib.hid (h.old (z := wr.heap.size + 1) (by omega))
  have o0 := Lib.hid (h.old (z := wr.heap.size) (by omega))
  have hgl : wr.heap.size + 1 < ((wr.alloc (.cells #[.int .i64 kd, .int .i64 0, .int .i64 td, .bool by', .int .u64 p, .int .u64 q, .int .i64 i] 49)).alloc (.cells #[.int .i64 0, .int .u64 0, .int .i64 0, .slice none 0 0] 46)).heap.size := hR.lt
  have HW0 : Hid (∀ z, z = wr.heap.size + 1 → wr.heap.size ≤ z) := fun z e => by omega
  clear h hC
  go_enter Tryz.func164, Tryz.ntmps164
  go_upto_region 1 with (fail)
  generalize hgg : wr.heap.size + 1 = g1 at *
  generalize hg0 : wr.heap.size = g at *
  generalize (wr.alloc _).alloc _ = W at *
  have HGG := Lib.hid hgg
  have HG0 := Lib.hid hg0
  clear hgg
  have HW1 : Hid (wr.heap.size ≤ g1) := by show wr.heap.size ≤ g1; rw [HG0.out]; exact HW0.out g1 rfl
  have y1 := hT.at (i := 1) rfl
  have y5 := hT.at (i := 5) rfl
  obtain ⟨cap, _, _, hd⟩ := h1.hd
  have d0 := hd.at (i := 0) rfl
  have HEQ : Hid (lWd n S c ⟨kd, 0, td, by', p, q, i⟩ = if aTakeE n S.xs c 0 q = 0 then ({ S with xs := aTake n S.xs c 0 q, b0 := uW (S.b0 + q) }, no 0) else (S, no 5)) := rfl
  have HXE : Hid (aTakeE n S.xs c 0 q ≠ 0 → aTake n S.xs c 0 q = S.xs) := fun hne => by unfold aTake; rw [if_neg hne]
  obtain ⟨e0, he0⟩ : ∃ z, aTakeE n S.xs c 0 q = z := ⟨_, rfl⟩
  rw [he0] at HEQ HXE
  go_still_tail 9, (by kernel_rfl)
  change wpList _ _ _ _ _ W.drew
  have h2 := h1.to (Chg.refl [] W).drew
  have hT2 := hT.drew
  have hR2 := hR.drew
  have C2 := Lib.hid HC.out.drew
  have HE0 := Lib.hid he0
  clear y1 y5 d0 h1 hT hR HC hd he0
  generalize W.drew = V at *
  by_cases hE : e0 = 0
  · have d0 : (e0 != 0) = false := by simp [hE]
    have HE := Lib.hid hE
    clear hE
    go_wp2_with fail
    refine (take_is h2.ex.a c 0 q _ _ tq HE0.out rfl).mono ?_
    rintro e w6 ⟨rfl, ha6, c6⟩
    have h3 := h2.acct ha6 c6
    have hT3 := hT2.chg c6 (by simp; exact o0.out.s)
    have hR3 := hR2.chg c6 (by simp; exact o1.out.s)
    have C3 := Lib.hid ((C2.out.mono (R := [s]) (by simp)).trans c6)
    clear h2 hT2 hR2 C2 ha6 c6
    obtain ⟨cap, hcap, hcap2, hd3⟩ := h3.hd
    have y1 := hT3.at (i := 1) rfl
    have y5 := hT3.at (i := 5) rfl
    have d6 := hd3.at (i := 6) rfl
    go_upto_region 3 with (fail)
    go_still_tail 13, (by kernel_rfl)
    change wpList _ _ _ _ _ w6.drew
    have h4 := h3.to (Chg.refl [] w6).drew
    have hR4 := hR3.drew
    have hd4 := hd3.drew
    have C4 := Lib.hid C3.out.drew
    clear y1 y5 d6 h3 hT3 hR3 hd3 C3
    generalize w6.drew = V4 at *
    have fl := hd4.free 6
    have gd := hd4.at (i := 6) rfl
    have wq := uW_wrap (S.b0 + q)
    go_upto_region 4 with (fail)
    have cs : Chg [l] V4 (V4.setCell ⟨l, 6, none⟩ (.int .u64 (uW (S.b0 + q)))) := (Chg.refl _ _).setCell _ _ (by simp)
    have h5 : Led w (V4.setCell ⟨l, 6, none⟩ (.int .u64 (uW (S.b0 + q)))) l ab s fb mb x kb ns n F m ({ S with xs := aTake n S.xs c 0 q, b0 := uW (S.b0 + q) }) := h4.own ⟨cap, hcap, hcap2, hd4.set 6 _⟩ cs ⟨rfl, rfl, rfl, rfl, rfl, rfl, rfl⟩ ⟨h4.ug.1, h4.ug.2.1, uW_U _, h4.ug.2.2.2⟩
    have hR5 := hR4.chg cs (by simp; exact o1.out.l)
    have C5 := Lib.hid ((C4.out.mono (R := l :: ns :: x :: s :: F) (by simp)).trans (cs.mono (by simp)))
    clear h4 hR4 hd4 C4 fl gd cs wq
    generalize V4.setCell _ _ = V5 at *
    have r0 := hR5.at (i := 0) rfl
    have f0 := hR5.free 0
    have r1 := hR5.at (i := 1) rfl
    have f1 := hR5.free 1
    have r2 := hR5.at (i := 2) rfl
    have f2 := hR5.free 2
    have r3 := hR5.at (i := 3) rfl
    have f3 := hR5.free 3
    have hz := h5.fresh (stoR_chg (Chg.refl [g1] V5) g1 0 0 0 none 0 0 (.inl (by simp))) o1.out
    have hcz := stoR_chg C5.out g1 0 0 0 none 0 0 (.inr (HW1.out))
    go_wp2_with fail
    exact bodyPost_ret (v := rcv (no 0) none 0 0) (by simp [results, Tryz.results164, go_sem, r0, r1, r2, r3, rcv, no]) rfl (by rw [HEQ.out, if_pos HE.out]; exact ActR.of hz hcz (by simp))
  · have d0 : (e0 != 0) = true := by simp [hE]
    have HE := Lib.hid hE
    clear hE
    go_wp2_with fail
    refine (take_is h2.ex.a c 0 q _ _ tq HE0.out (HXE.out HE.out)).mono ?_
    rintro e w6 ⟨rfl, ha6, c6⟩
    have h3 := h2.acct ha6 c6
    have hR3 := hR2.chg c6 (by simp; exact o1.out.s)
    have C3 := Lib.hid ((C2.out.mono (R := [s]) (by simp)).trans c6)
    clear h2 hT2 hR2 C2 ha6 c6
    have r0 := hR3.at (i := 0) rfl
    have f0 := hR3.free 0
    have r1 := hR3.at (i := 1) rfl
    have f1 := hR3.free 1
    have r2 := hR3.at (i := 2) rfl
    have f2 := hR3.free 2
    have r3 := hR3.at (i := 3) rfl
    have f3 := hR3.free 3
    have hz := h3.fresh (stoR_chg (Chg.refl [g1] w6) g1 5 0 0 none 0 0 (.inl (by simp))) o1.out
    have hcz := stoR_chg C3.out g1 5 0 0 none 0 0 (.inr (HW1.out))
    go_wp2_with fail
    exact bodyPost_ret (v := rcv (no 5) none 0 0) (by simp [results, Tryz.results164, go_sem, r0, r1, r2, r3, rcv, no]) rfl (by rw [HEQ.out, if_neg HE.out]; exact ActR.of hz hcz (by simp))
set_option maxRecDepth 100000 in
set_option maxHeartbeats 2000000 in
theorem wd1 {w wr : World} {l ab s fb mb x kb ns n : Nat} {F : List Nat} {m : Nat} {S : LS} (h : Led w wr l ab s fb mb x kb ns n F m S) (c : Int) (t : Txx) (ht : t.Ok) (ha : t.asset = 1) :
    Calls Tryz.prog 164 #[.pointer (some ⟨l, 0, none⟩), .int .i64 c, txv t] wr fun e w' => ActR w wr l ab s fb mb x kb ns n F m (lWd n S c t) e w' := by
  obtain ⟨kd, ax, td, by', p, q, i⟩ := t
  obtain ⟨tk, ta, tt, tp, tq, ti⟩ := ht
  dsimp only at ha; subst ha
  dsimp only at tk ta tt tp tq ti 
  have hC : Chg [] wr ((wr.alloc (.cells #[.int .i64 kd, .int .i64 1, .int .i64 td, .bool by', .int .u64 p, .int .u64 q, .int .i64 i] 49)).alloc (.cells #[.int .i64 0, .int .u64 0, .int .i64 0, .slice none 0 0] 46)) := ((Chg.refl _ _).alloc _).alloc _
  have h1 := h.to hC
  have hT : Blk ((wr.alloc (.cells #[.int .i64 kd, .int .i64 1, .int .i64 td, .bool by', .int .u64 p, .int .u64 q, .int .i64 i] 49)).alloc (.cells #[.int .i64 0, .int .u64 0, .int .i64 0, .slice none 0 0] 46)) wr.heap.size 49 (txc ⟨kd, 1, td, by', p, q, i⟩) := (Blk.new wr (txc ⟨kd, 1, td, by', p, q, i⟩) 49).alloc _
  have hR : Blk ((wr.alloc (.cells #[.int .i64 kd, .int .i64 1, .int .i64 td, .bool by', .int .u64 p, .int .u64 q, .int .i64 i] 49)).alloc (.cells #[.int .i64 0, .int .u64 0, .int .i64 0, .slice none 0 0] 46)) (wr.heap.size + 1) 46 [.int .i64 0, .int .u64 0, .int .i64 0, .slice none 0 0] := by
    have := Blk.new (wr.alloc (.cells #[.int .i64 kd, .int .i64 1, .int .i64 td, .bool by', .int .u64 p, .int .u64 q, .int .i64 i] 49)) [.int .i64 0, .int .u64 0, .int .i64 0, .slice none 0 0] 46
    rwa [World.size_alloc] at this
  have HC := Lib.hid hC
  have o1 := Lib.hid (h.old (z := wr.heap.size + 1) (by omega))
  have o0 := Lib.hid (h.old (z := wr.heap.size) (by omega))
  have hgl : wr.heap.size + 1 < ((wr.alloc (.cells #[.int .i64 kd, .int .i64 1, .int .i64 td, .bool by', .int .u64 p, .int .u64 q, .int .i64 i] 49)).alloc (.cells #[.int .i64 0, .int .u64 0, .int .i64 0, .slice none 0 0] 46)).heap.size := hR.lt
  have HW0 : Hid (∀ z, z = wr.heap.size + 1 → wr.heap.size ≤ z) := fun z e => by omega
  clear h hC
  go_enter Tryz.func164, Tryz.ntmps164
  go_upto_region 1 with (fail)
  generalize hgg : wr.heap.size + 1 = g1 at *
  generalize hg0 : wr.heap.size = g at *
  generalize (wr.alloc _).alloc _ = W at *
  have HGG := Lib.hid hgg
  have HG0 := Lib.hid hg0
  clear hgg
  have HW1 : Hid (wr.heap.size ≤ g1) := by show wr.heap.size ≤ g1; rw [HG0.out]; exact HW0.out g1 rfl
  have y1 := hT.at (i := 1) rfl
  have y5 := hT.at (i := 5) rfl
  obtain ⟨cap, _, _, hd⟩ := h1.hd
  have d0 := hd.at (i := 0) rfl
  have HEQ : Hid (lWd n S c ⟨kd, 1, td, by', p, q, i⟩ = if aTakeE n S.xs c 1 q = 0 then ({ S with xs := aTake n S.xs c 1 q, b1 := uW (S.b1 + q) }, no 0) else (S, no 5)) := rfl
  have HXE : Hid (aTakeE n S.xs c 1 q ≠ 0 → aTake n S.xs c 1 q = S.xs) := fun hne => by unfold aTake; rw [if_neg hne]
  obtain ⟨e0, he0⟩ : ∃ z, aTakeE n S.xs c 1 q = z := ⟨_, rfl⟩
  rw [he0] at HEQ HXE
  go_still_tail 9, (by kernel_rfl)
  change wpList _ _ _ _ _ W.drew
  have h2 := h1.to (Chg.refl [] W).drew
  have hT2 := hT.drew
  have hR2 := hR.drew
  have C2 := Lib.hid HC.out.drew
  have HE0 := Lib.hid he0
  clear y1 y5 d0 h1 hT hR HC hd he0
  generalize W.drew = V at *
  by_cases hE : e0 = 0
  · have d0 : (e0 != 0) = false := by simp [hE]
    have HE := Lib.hid hE
    clear hE
    go_wp2_with fail
    refine (take_is h2.ex.a c 1 q _ _ tq HE0.out rfl).mono ?_
    rintro e w6 ⟨rfl, ha6, c6⟩
    have h3 := h2.acct ha6 c6
    have hT3 := hT2.chg c6 (by simp; exact o0.out.s)
    have hR3 := hR2.chg c6 (by simp; exact o1.out.s)
    have C3 := Lib.hid ((C2.out.mono (R := [s]) (by simp)).trans c6)
    clear h2 hT2 hR2 C2 ha6 c6
    obtain ⟨cap, hcap, hcap2, hd3⟩ := h3.hd
    have y1 := hT3.at (i := 1) rfl
    have y5 := hT3.at (i := 5) rfl
    have d7 := hd3.at (i := 7) rfl
    go_upto_region 3 with (fail)
    go_still_tail 13, (by kernel_rfl)
    change wpList _ _ _ _ _ w6.drew
    have h4 := h3.to (Chg.refl [] w6).drew
    have hR4 := hR3.drew
    have hd4 := hd3.drew
    have C4 := Lib.hid C3.out.drew
    clear y1 y5 d7 h3 hT3 hR3 hd3 C3
    generalize w6.drew = V4 at *
    have fl := hd4.free 7
    have gd := hd4.at (i := 7) rfl
    have wq := uW_wrap (S.b1 + q)
    go_upto_region 4 with (fail)
    have cs : Chg [l] V4 (V4.setCell ⟨l, 7, none⟩ (.int .u64 (uW (S.b1 + q)))) := (Chg.refl _ _).setCell _ _ (by simp)
    have h5 : Led w (V4.setCell ⟨l, 7, none⟩ (.int .u64 (uW (S.b1 + q)))) l ab s fb mb x kb ns n F m ({ S with xs := aTake n S.xs c 1 q, b1 := uW (S.b1 + q) }) := h4.own ⟨cap, hcap, hcap2, hd4.set 7 _⟩ cs ⟨rfl, rfl, rfl, rfl, rfl, rfl, rfl⟩ ⟨h4.ug.1, h4.ug.2.1, h4.ug.2.2.1, uW_U _⟩
    have hR5 := hR4.chg cs (by simp; exact o1.out.l)
    have C5 := Lib.hid ((C4.out.mono (R := l :: ns :: x :: s :: F) (by simp)).trans (cs.mono (by simp)))
    clear h4 hR4 hd4 C4 fl gd cs wq
    generalize V4.setCell _ _ = V5 at *
    have r0 := hR5.at (i := 0) rfl
    have f0 := hR5.free 0
    have r1 := hR5.at (i := 1) rfl
    have f1 := hR5.free 1
    have r2 := hR5.at (i := 2) rfl
    have f2 := hR5.free 2
    have r3 := hR5.at (i := 3) rfl
    have f3 := hR5.free 3
    have hz := h5.fresh (stoR_chg (Chg.refl [g1] V5) g1 0 0 0 none 0 0 (.inl (by simp))) o1.out
    have hcz := stoR_chg C5.out g1 0 0 0 none 0 0 (.inr (HW1.out))
    go_wp2_with fail
    exact bodyPost_ret (v := rcv (no 0) none 0 0) (by simp [results, Tryz.results164, go_sem, r0, r1, r2, r3, rcv, no]) rfl (by rw [HEQ.out, if_pos HE.out]; exact ActR.of hz hcz (by simp))
  · have d0 : (e0 != 0) = true := by simp [hE]
    have HE := Lib.hid hE
    clear hE
    go_wp2_with fail
    refine (take_is h2.ex.a c 1 q _ _ tq HE0.out (HXE.out HE.out)).mono ?_
    rintro e w6 ⟨rfl, ha6, c6⟩
    have h3 := h2.acct ha6 c6
    have hR3 := hR2.chg c6 (by simp; exact o1.out.s)
    have C3 := Lib.hid ((C2.out.mono (R := [s]) (by simp)).trans c6)
    clear h2 hT2 hR2 C2 ha6 c6
    have r0 := hR3.at (i := 0) rfl
    have f0 := hR3.free 0
    have r1 := hR3.at (i := 1) rfl
    have f1 := hR3.free 1
    have r2 := hR3.at (i := 2) rfl
    have f2 := hR3.free 2
    have r3 := hR3.at (i := 3) rfl
    have f3 := hR3.free 3
    have hz := h3.fresh (stoR_chg (Chg.refl [g1] w6) g1 5 0 0 none 0 0 (.inl (by simp))) o1.out
    have hcz := stoR_chg C3.out g1 5 0 0 none 0 0 (.inr (HW1.out))
    go_wp2_with fail
    exact bodyPost_ret (v := rcv (no 5) none 0 0) (by simp [results, Tryz.results164, go_sem, r0, r1, r2, r3, rcv, no]) rfl (by rw [HEQ.out, if_neg HE.out]; exact ActR.of hz hcz (by simp))
set_option maxRecDepth 100000 in
set_option maxHeartbeats 2000000 in
theorem tr_any {w wr : World} {l ab s fb mb x kb ns n : Nat} {F : List Nat} {m : Nat} {S : LS} (h : Led w wr l ab s fb mb x kb ns n F m S) (c : Int) (t : Txx) (ht : t.Ok) :
    Calls Tryz.prog 165 #[.pointer (some ⟨l, 0, none⟩), .int .i64 c, txv t] wr fun e w' => ActR w wr l ab s fb mb x kb ns n F m (lTr n S c t) e w' := by
  obtain ⟨kd, ax, td, by', p, q, i⟩ := t
  obtain ⟨tk, ta, tt, tp, tq, ti⟩ := ht
  dsimp only at tk ta tt tp tq ti 
  have hC : Chg [] wr ((wr.alloc (.cells #[.int .i64 kd, .int .i64 ax, .int .i64 td, .bool by', .int .u64 p, .int .u64 q, .int .i64 i] 49)).alloc (.cells #[.int .i64 0, .int .u64 0, .int .i64 0, .slice none 0 0] 46)) := ((Chg.refl _ _).alloc _).alloc _
  have h1 := h.to hC
  have hT : Blk ((wr.alloc (.cells #[.int .i64 kd, .int .i64 ax, .int .i64 td, .bool by', .int .u64 p, .int .u64 q, .int .i64 i] 49)).alloc (.cells #[.int .i64 0, .int .u64 0, .int .i64 0, .slice none 0 0] 46)) wr.heap.size 49 (txc ⟨kd, ax, td, by', p, q, i⟩) := (Blk.new wr (txc ⟨kd, ax, td, by', p, q, i⟩) 49).alloc _
  have hR : Blk ((wr.alloc (.cells #[.int .i64 kd, .int .i64 ax, .int .i64 td, .bool by', .int .u64 p, .int .u64 q, .int .i64 i] 49)).alloc (.cells #[.int .i64 0, .int .u64 0, .int .i64 0, .slice none 0 0] 46)) (wr.heap.size + 1) 46 [.int .i64 0, .int .u64 0, .int .i64 0, .slice none 0 0] := by
    have := Blk.new (wr.alloc (.cells #[.int .i64 kd, .int .i64 ax, .int .i64 td, .bool by', .int .u64 p, .int .u64 q, .int .i64 i] 49)) [.int .i64 0, .int .u64 0, .int .i64 0, .slice none 0 0] 46
    rwa [World.size_alloc] at this
  have HC := Lib.hid hC
  have o1 := Lib.hid (h.old (z := wr.heap.size + 1) (by omega))
  have o0 := Lib.hid (h.old (z := wr.heap.size) (by omega))
  have hgl : wr.heap.size + 1 < ((wr.alloc (.cells #[.int .i64 kd, .int .i64 ax, .int .i64 td, .bool by', .int .u64 p, .int .u64 q, .int .i64 i] 49)).alloc (.cells #[.int .i64 0, .int .u64 0, .int .i64 0, .slice none 0 0] 46)).heap.size := hR.lt
  have HW0 : Hid (∀ z, z = wr.heap.size + 1 → wr.heap.size ≤ z) := fun z e => by omega
  clear h hC
  go_enter Tryz.func165, Tryz.ntmps165
  go_upto_region 1 with (fail)
  generalize hgg : wr.heap.size + 1 = g1 at *
  generalize hg0 : wr.heap.size = g at *
  generalize (wr.alloc _).alloc _ = W at *
  have HGG := Lib.hid hgg
  have HG0 := Lib.hid hg0
  clear hgg
  have HW1 : Hid (wr.heap.size ≤ g1) := by show wr.heap.size ≤ g1; rw [HG0.out]; exact HW0.out g1 rfl
  have y2 := hT.at (i := 2) rfl
  obtain ⟨cap, _, _, hd⟩ := h1.hd
  have d0 := hd.at (i := 0) rfl
  have HEQ : Hid (lTr n S c ⟨kd, ax, td, by', p, q, i⟩ = if aHas n td = true then (if aTakeE n S.xs c ax q = 0 then ({ S with xs := aPut n (aTake n S.xs c ax q) td ax q }, no 0) else (S, no 5)) else (S, no 6)) := rfl
  have HXE : Hid (aTakeE n S.xs c ax q ≠ 0 → aTake n S.xs c ax q = S.xs) := fun hne => by unfold aTake; rw [if_neg hne]
  obtain ⟨e0, he0⟩ : ∃ z, aTakeE n S.xs c ax q = z := ⟨_, rfl⟩
  obtain ⟨hh, hh0⟩ : ∃ z, aHas n td = z := ⟨_, rfl⟩
  rw [he0] at HEQ HXE
  rw [hh0] at HEQ
  have HE0 := Lib.hid he0
  have HH0 := Lib.hid hh0
  clear he0 hh0
  go_still_tail 6, (by kernel_rfl)
  change wpList _ _ _ _ _ W.drew
  have h2 := h1.to (Chg.refl [] W).drew
  have hT2 := hT.drew
  have hR2 := hR.drew
  have C2 := Lib.hid HC.out.drew
  clear y2 d0 h1 hT hR HC hd
  generalize W.drew = V at *
  cases hh
  · go_wp2_with fail
    refine (has_is h2.ex.a td false HH0.out).mono ?_
    rintro e w6 ⟨rfl, rfl⟩
    have r0 := hR2.at (i := 0) rfl
    have f0 := hR2.free 0
    have r1 := hR2.at (i := 1) rfl
    have f1 := hR2.free 1
    have r2 := hR2.at (i := 2) rfl
    have f2 := hR2.free 2
    have r3 := hR2.at (i := 3) rfl
    have f3 := hR2.free 3
    have hz := h2.fresh (stoR_chg (Chg.refl [g1] V) g1 6 0 0 none 0 0 (.inl (by simp))) o1.out
    have hcz := stoR_chg C2.out g1 6 0 0 none 0 0 (.inr (HW1.out))
    go_wp2_with fail
    exact bodyPost_ret (v := rcv (no 6) none 0 0) (by simp [results, Tryz.results165, go_sem, r0, r1, r2, r3, rcv, no]) rfl (by rw [HEQ.out, if_neg (by decide)]; exact ActR.of hz hcz (by simp))
  · go_wp2_with fail
    refine (has_is h2.ex.a td true HH0.out).mono ?_
    rintro e w6 ⟨rfl, rfl⟩
    have y1 := hT2.at (i := 1) rfl
    have y5 := hT2.at (i := 5) rfl
    obtain ⟨cap, _, _, hd2⟩ := h2.hd
    have d0 := hd2.at (i := 0) rfl
    go_upto_region 3 with (fail)
    go_still_tail 9, (by kernel_rfl)
    change wpList _ _ _ _ _ V.drew
    have h3 := h2.to (Chg.refl [] V).drew
    have hT3 := hT2.drew
    have hR3 := hR2.drew
    have C3 := Lib.hid C2.out.drew
    clear y1 y5 d0 h2 hT2 hR2 C2 hd2
    generalize V.drew = V3 at *
    by_cases hE : e0 = 0
    · have d0 : (e0 != 0) = false := by simp [hE]
      have HE := Lib.hid hE
      clear hE
      go_wp2_with fail
      refine (take_is h3.ex.a c ax q _ _ tq HE0.out rfl).mono ?_
      rintro e w6 ⟨rfl, ha6, c6⟩
      have h4 := h3.acct ha6 c6
      have hT4 := hT3.chg c6 (by simp; exact o0.out.s)
      have hR4 := hR3.chg c6 (by simp; exact o1.out.s)
      have C4 := Lib.hid ((C3.out.mono (R := [s]) (by simp)).trans c6)
      clear h3 hT3 hR3 C3 ha6 c6
      obtain ⟨cap, _, _, hd4⟩ := h4.hd
      have y1 := hT4.at (i := 1) rfl
      have y2 := hT4.at (i := 2) rfl
      have y5 := hT4.at (i := 5) rfl
      have d0 := hd4.at (i := 0) rfl
      go_upto_region 5 with (fail)
      go_still_tail 10, (by kernel_rfl)
      change wpList _ _ _ _ _ w6.drew
      have h5 := h4.to (Chg.refl [] w6).drew
      have hR5 := hR4.drew
      have C5 := Lib.hid C4.out.drew
      clear y1 y2 y5 d0 h4 hT4 hR4 hd4 C4
      generalize w6.drew = V5 at *
      go_wp2_with fail
      refine (put_is h5.ex.a td ax q _ _ tq rfl rfl).mono ?_
      rintro e w7 ⟨rfl, ha7, c7⟩
      have h6 := h5.acct ha7 c7
      have hR6 := hR5.chg c7 (by simp; exact o1.out.s)
      have C6 := Lib.hid (C5.out.trans c7)
      clear h5 hR5 C5 ha7 c7
      have r0 := hR6.at (i := 0) rfl
      have f0 := hR6.free 0
      have r1 := hR6.at (i := 1) rfl
      have f1 := hR6.free 1
      have r2 := hR6.at (i := 2) rfl
      have f2 := hR6.free 2
      have r3 := hR6.at (i := 3) rfl
      have f3 := hR6.free 3
      have hz := h6.fresh (stoR_chg (Chg.refl [g1] w7) g1 0 0 0 none 0 0 (.inl (by simp))) o1.out
      have hcz := stoR_chg C6.out g1 0 0 0 none 0 0 (.inr (HW1.out))
      go_wp2_with fail
      exact bodyPost_ret (v := rcv (no 0) none 0 0) (by simp [results, Tryz.results165, go_sem, r0, r1, r2, r3, rcv, no]) rfl (by rw [HEQ.out, if_pos trivial, if_pos HE.out]; exact ActR.of hz hcz (by simp))
    · have d0 : (e0 != 0) = true := by simp [hE]
      have HE := Lib.hid hE
      clear hE
      go_wp2_with fail
      refine (take_is h3.ex.a c ax q _ _ tq HE0.out (HXE.out HE.out)).mono ?_
      rintro e w6 ⟨rfl, ha6, c6⟩
      have h4 := h3.acct ha6 c6
      have hR4 := hR3.chg c6 (by simp; exact o1.out.s)
      have C4 := Lib.hid ((C3.out.mono (R := [s]) (by simp)).trans c6)
      clear h3 hT3 hR3 C3 ha6 c6
      have r0 := hR4.at (i := 0) rfl
      have f0 := hR4.free 0
      have r1 := hR4.at (i := 1) rfl
      have f1 := hR4.free 1
      have r2 := hR4.at (i := 2) rfl
      have f2 := hR4.free 2
      have r3 := hR4.at (i := 3) rfl
      have f3 := hR4.free 3
      have hz := h4.fresh (stoR_chg (Chg.refl [g1] w6) g1 5 0 0 none 0 0 (.inl (by simp))) o1.out
      have hcz := stoR_chg C4.out g1 5 0 0 none 0 0 (.inr (HW1.out))
      go_wp2_with fail
      exact bodyPost_ret (v := rcv (no 5) none 0 0) (by simp [results, Tryz.results165, go_sem, r0, r1, r2, r3, rcv, no]) rfl (by rw [HEQ.out, if_pos trivial, if_neg HE.out]; exact ActR.of hz hcz (by simp))
end Go.Proofs.YteabcpmpcbjicaaGreat

namespace Go.Proofs.YteabcpmpcbjicaaGreat
set_option linter.unusedVariables false
open Go Go.Proofs Go.RowKit
attribute [local go_sem ↓] Go.wp_at_zero Go.wp_at_succ

set_option maxRecDepth 100000 in
theorem code_any (v : Int) (w : World) : Calls Tryz.prog 183 #[.int .i64 v] w fun e w' => e = .returned (.int .i64 (eCode v)) ∧ w = w' := by
  by_cases h0 : v = 0
  · subst h0
    go_enter Tryz.func183, Tryz.ntmps183
    go_wp2_with fail
    go_ret
    exact ⟨rfl, rfl⟩
  · have d0 : (v == 0) = false := beq_eq_false_iff_ne.2 h0
    by_cases h6 : v = 6
    · subst h6
      go_enter Tryz.func183, Tryz.ntmps183
      go_wp2_with fail
      go_ret
      exact ⟨rfl, rfl⟩
    · have d6 : (v == 6) = false := beq_eq_false_iff_ne.2 h6
      by_cases h7 : v = 7
      · subst h7
        go_enter Tryz.func183, Tryz.ntmps183
        go_wp2_with fail
        go_ret
        exact ⟨rfl, rfl⟩
      · have d7 : (v == 7) = false := beq_eq_false_iff_ne.2 h7
        have HE : Hid (eCode v = 5) := by show eCode v = 5; unfold eCode; rw [if_neg h0, if_neg h6, if_neg h7]
        clear h0 h6 h7
        go_enter Tryz.func183, Tryz.ntmps183
        go_wp2_with fail
        go_ret
        exact ⟨ret_int HE.out.symm, rfl⟩
set_option maxRecDepth 1000000 in
set_option maxHeartbeats 8000000 in
theorem led_lim {Q : Exit → Act → World → Prop} {u2 u3 u4 u6 u7 u8 u9 u10 u11 u12 u13 u14 u15 u16 u17 u18 u19 u20 u21 u22 u23 u24 u25 u26 u27 u28 u29 u30 : Value} (hP : ∀ c a d v w, Q (.panic c) (Act.put a d v) w → Q (.panic c) a w) {l g x nT : Nat} {c p q i0 e0 : Int} {b : Bool} {W : World} {P : Option Addr → Nat → World → Prop} (HM : Calls Tryz.prog 182 #[.pointer (some ⟨x, 0, none⟩), .int .i64 c, .bool b, .int .u64 p, .int .u64 q] W.drew fun e w' => ∃ a d, e = .returned (.tuple #[.int .i64 i0, .slice a nT d, .int .i64 e0]) ∧ P a d w') (HS : Hid (∀ a d w', P a d w' → w'.cell? ⟨l, 2, none⟩ = some (.pointer (some ⟨x, 0, none⟩)) ∧ w'.cell? ⟨g, 3, none⟩ = some (.bool b) ∧ w'.cell? ⟨g, 4, none⟩ = some (.int .u64 p) ∧ w'.cell? ⟨g, 5, none⟩ = some (.int .u64 q))) (l2 : W.cell? ⟨l, 2, none⟩ = some (.pointer (some ⟨x, 0, none⟩))) (y3 : W.cell? ⟨g, 3, none⟩ = some (.bool b)) (y4 : W.cell? ⟨g, 4, none⟩ = some (.int .u64 p)) (y5 : W.cell? ⟨g, 5, none⟩ = some (.int .u64 q))
    (hQ : ∀ (a3 : Option Addr) (d3 : Nat) (w3 : World) (_ : P a3 d3 w3) (x10 x11 x12 x13 x14 x15 x16 x17 x18 x19 x20 x21 x22 x23 x24 x25 : Value), Q .normal ⟨#[.pointer (some ⟨l, 0, none⟩), .int .i64 c, u2, u3, u4, .pointer (some ⟨g, 0, none⟩), u6, .int .i64 i0, .slice a3 nT d3, .int .i64 e0, x10, x11, x12, x13, x14, x15, x16, x17, x18, x19, x20, x21, x22, x23, x24, x25, u26, u27, u28, u29, u30], []⟩ w3) :
    Code.wp Tryz.prog (regionOf Tryz.f166 1) Q ⟨#[.pointer (some ⟨l, 0, none⟩), .int .i64 c, u2, u3, u4, .pointer (some ⟨g, 0, none⟩), u6, u7, u8, u9, u10, u11, u12, u13, u14, u15, u16, u17, u18, u19, u20, u21, u22, u23, u24, u25, u26, u27, u28, u29, u30], []⟩ W := by
  conv => arg 2; whnf
  refine wp_region_held_drew (S := (fun w' => w'.cell? ⟨l, 2, none⟩ = some (.pointer (some ⟨x, 0, none⟩)) ∧ w'.cell? ⟨g, 3, none⟩ = some (.bool b) ∧ w'.cell? ⟨g, 4, none⟩ = some (.int .u64 p) ∧ w'.cell? ⟨g, 5, none⟩ = some (.int .u64 q))) (by kernel_rfl) ⟨l2, y3, y4, y5⟩ (fun _ => ?_)
  refine wpAnyH_take (i := 0) (v := ?_) rfl (by kernel_rfl) (by kernel_rfl) (by kernel_rfl) (fun c a w h => hP c a _ _ w h) (Or.inl ⟨by rfl, ?_⟩) ⟨l2, y3, y4, y5⟩ ?_
  rotate_left
  · (intro w hSw; (try dsimp only at hSw); go_simp; (try (with_reducible rfl)))
  change wpAnyH _ _ _ _ _ _ _ (Act.put _ (some 11) _) _
  simp only [Act.put, List.setIfInBounds_toArray, List.set_cons_succ, List.set_cons_zero]
  refine wpAnyH_take (i := 1) (v := ?_) rfl (by kernel_rfl) (by kernel_rfl) (by kernel_rfl) (fun c a w h => hP c a _ _ w h) (Or.inl ⟨by rfl, ?_⟩) ⟨l2, y3, y4, y5⟩ ?_
  rotate_left
  · (intro w hSw; (try dsimp only at hSw); go_simp; (try (with_reducible rfl)))
  change wpAnyH _ _ _ _ _ _ _ (Act.put _ (some 12) _) _
  simp only [Act.put, List.setIfInBounds_toArray, List.set_cons_succ, List.set_cons_zero]
  refine wpAnyH_take (i := 2) (v := ?_) rfl (by kernel_rfl) (by kernel_rfl) (by kernel_rfl) (fun c a w h => hP c a _ _ w h) (Or.inl ⟨by rfl, ?_⟩) ⟨l2, y3, y4, y5⟩ ?_
  rotate_left
  · (intro w hSw; (try dsimp only at hSw); go_simp; (try (with_reducible rfl)))
  change wpAnyH _ _ _ _ _ _ _ (Act.put _ (some 13) _) _
  simp only [Act.put, List.setIfInBounds_toArray, List.set_cons_succ, List.set_cons_zero]
  refine wpAnyH_take (i := 3) (v := ?_) rfl (by kernel_rfl) (by kernel_rfl) (by kernel_rfl) (fun c a w h => hP c a _ _ w h) (Or.inl ⟨by rfl, ?_⟩) ⟨l2, y3, y4, y5⟩ ?_
  rotate_left
  · (intro w hSw; (try dsimp only at hSw); go_simp; (try (with_reducible rfl)))
  change wpAnyH _ _ _ _ _ _ _ (Act.put _ (some 14) _) _
  simp only [Act.put, List.setIfInBounds_toArray, List.set_cons_succ, List.set_cons_zero]
  refine wpAnyH_take (i := 4) (v := ?_) rfl (by kernel_rfl) (by kernel_rfl) (by kernel_rfl) (fun c a w h => hP c a _ _ w h) (Or.inl ⟨by rfl, ?_⟩) ⟨l2, y3, y4, y5⟩ ?_
  rotate_left
  · (intro w hSw; (try dsimp only at hSw); go_simp; (try (with_reducible rfl)))
  change wpAnyH _ _ _ _ _ _ _ (Act.put _ (some 15) _) _
  simp only [Act.put, List.setIfInBounds_toArray, List.set_cons_succ, List.set_cons_zero]
  refine wpAnyH_take (i := 5) (v := ?_) rfl (by kernel_rfl) (by kernel_rfl) (by kernel_rfl) (fun c a w h => hP c a _ _ w h) (Or.inl ⟨by rfl, ?_⟩) ⟨l2, y3, y4, y5⟩ ?_
  rotate_left
  · (intro w hSw; (try dsimp only at hSw); go_simp; (try (with_reducible rfl)))
  change wpAnyH _ _ _ _ _ _ _ (Act.put _ (some 16) _) _
  simp only [Act.put, List.setIfInBounds_toArray, List.set_cons_succ, List.set_cons_zero]
  refine wpAnyH_take (i := 6) (v := ?_) rfl (by kernel_rfl) (by kernel_rfl) (by kernel_rfl) (fun c a w h => hP c a _ _ w h) (Or.inl ⟨by rfl, ?_⟩) ⟨l2, y3, y4, y5⟩ ?_
  rotate_left
  · (intro w hSw; (try dsimp only at hSw); go_simp; (try (with_reducible rfl)))
  change wpAnyH _ _ _ _ _ _ _ (Act.put _ (some 17) _) _
  simp only [Act.put, List.setIfInBounds_toArray, List.set_cons_succ, List.set_cons_zero]
  refine wpAnyH_take (i := 7) (v := ?_) rfl (by kernel_rfl) (by kernel_rfl) (by kernel_rfl) (fun c a w h => hP c a _ _ w h) (Or.inl ⟨by rfl, ?_⟩) ⟨l2, y3, y4, y5⟩ ?_
  rotate_left
  · (intro w hSw; (try dsimp only at hSw); go_simp; (try (with_reducible rfl)))
  change wpAnyH _ _ _ _ _ _ _ (Act.put _ (some 18) _) _
  simp only [Act.put, List.setIfInBounds_toArray, List.set_cons_succ, List.set_cons_zero]
  refine wpAnyH_take (i := 8) (v := ?_) rfl (by kernel_rfl) (by kernel_rfl) (by kernel_rfl) (fun c a w h => hP c a _ _ w h) (Or.inl ⟨by rfl, ?_⟩) ⟨l2, y3, y4, y5⟩ ?_
  rotate_left
  · (intro w hSw; (try dsimp only at hSw); go_simp; (try (with_reducible rfl)))
  change wpAnyH _ _ _ _ _ _ _ (Act.put _ (some 19) _) _
  simp only [Act.put, List.setIfInBounds_toArray, List.set_cons_succ, List.set_cons_zero]
  refine wpAnyH_take (i := 9) (v := ?_) rfl (by kernel_rfl) (by kernel_rfl) (by kernel_rfl) (fun c a w h => hP c a _ _ w h) (Or.inl ⟨by rfl, ?_⟩) ⟨l2, y3, y4, y5⟩ ?_
  rotate_left
  · (intro w hSw; (try dsimp only at hSw); go_simp; (try (with_reducible rfl)))
  change wpAnyH _ _ _ _ _ _ _ (Act.put _ (some 20) _) _
  simp only [Act.put, List.setIfInBounds_toArray, List.set_cons_succ, List.set_cons_zero]
  refine wpAnyH_take (i := 10) (v := ?_) rfl (by kernel_rfl) (by kernel_rfl) (by kernel_rfl) (fun c a w h => hP c a _ _ w h) (Or.inl ⟨by rfl, ?_⟩) ⟨l2, y3, y4, y5⟩ ?_
  rotate_left
  · (intro w hSw; (try dsimp only at hSw); go_simp; (try (with_reducible rfl)))
  change wpAnyH _ _ _ _ _ _ _ (Act.put _ (some 21) _) _
  simp only [Act.put, List.setIfInBounds_toArray, List.set_cons_succ, List.set_cons_zero]
  refine wpAnyH_ready (rs := [11]) (by kernel_rfl) (by simp) (AllReadyH.cons rfl (fun K hK => ?_) AllReadyH.nil)
  go_simp
  refine HM.mono ?_
  rintro e w3 ⟨a3, d3, rfl, hP3⟩
  have hz3 := HS.out a3 d3 w3 hP3
  go_wp2_with fail
  refine hK.out _ _ hz3 (fun hHeld => ?_)
  clear hK K
  refine wpAnyH_take (i := 12) (v := ?_) rfl (by kernel_rfl) (by kernel_rfl) (by kernel_rfl) (fun c a w h => hP c a _ _ w h) (Or.inl ⟨by rfl, ?_⟩) hz3 ?_
  rotate_left
  · (intro w hSw; (try dsimp only at hSw); go_simp; (try (with_reducible rfl)))
  change wpAnyH _ _ _ _ _ _ _ (Act.put _ (some 10) _) _
  simp only [Act.put, List.setIfInBounds_toArray, List.set_cons_succ, List.set_cons_zero]
  refine wpAnyH_take (i := 13) (v := ?_) rfl (by kernel_rfl) (by kernel_rfl) (by kernel_rfl) (fun c a w h => hP c a _ _ w h) (Or.inl ⟨by rfl, ?_⟩) hz3 ?_
  rotate_left
  · (intro w hSw; (try dsimp only at hSw); go_simp; (try (with_reducible rfl)))
  change wpAnyH _ _ _ _ _ _ _ (Act.put _ (some 23) _) _
  simp only [Act.put, List.setIfInBounds_toArray, List.set_cons_succ, List.set_cons_zero]
  refine wpAnyH_take (i := 14) (v := ?_) rfl (by kernel_rfl) (by kernel_rfl) (by kernel_rfl) (fun c a w h => hP c a _ _ w h) (Or.inl ⟨by rfl, ?_⟩) hz3 ?_
  rotate_left
  · (intro w hSw; (try dsimp only at hSw); go_simp; (try (with_reducible rfl)))
  change wpAnyH _ _ _ _ _ _ _ (Act.put _ (some 24) _) _
  simp only [Act.put, List.setIfInBounds_toArray, List.set_cons_succ, List.set_cons_zero]
  refine wpAnyH_take (i := 15) (v := ?_) rfl (by kernel_rfl) (by kernel_rfl) (by kernel_rfl) (fun c a w h => hP c a _ _ w h) (Or.inl ⟨by rfl, ?_⟩) hz3 ?_
  rotate_left
  · (intro w hSw; (try dsimp only at hSw); go_simp; (try (with_reducible rfl)))
  change wpAnyH _ _ _ _ _ _ _ (Act.put _ (some 25) _) _
  simp only [Act.put, List.setIfInBounds_toArray, List.set_cons_succ, List.set_cons_zero]
  refine wpAnyH_take (i := 16) (v := ?_) rfl (by kernel_rfl) (by kernel_rfl) (by kernel_rfl) (fun c a w h => hP c a _ _ w h) (Or.inl ⟨by rfl, ?_⟩) hz3 ?_
  rotate_left
  · (intro w hSw; (try dsimp only at hSw); go_simp; (try (with_reducible rfl)))
  change wpAnyH _ _ _ _ _ _ _ (Act.put _ (some 7) _) _
  simp only [Act.put, List.setIfInBounds_toArray, List.set_cons_succ, List.set_cons_zero]
  refine wpAnyH_take (i := 17) (v := ?_) rfl (by kernel_rfl) (by kernel_rfl) (by kernel_rfl) (fun c a w h => hP c a _ _ w h) (Or.inl ⟨by rfl, ?_⟩) hz3 ?_
  rotate_left
  · (intro w hSw; (try dsimp only at hSw); go_simp; (try (with_reducible rfl)))
  change wpAnyH _ _ _ _ _ _ _ (Act.put _ (some 8) _) _
  simp only [Act.put, List.setIfInBounds_toArray, List.set_cons_succ, List.set_cons_zero]
  refine wpAnyH_take (i := 18) (v := ?_) rfl (by kernel_rfl) (by kernel_rfl) (by kernel_rfl) (fun c a w h => hP c a _ _ w h) (Or.inl ⟨by rfl, ?_⟩) hz3 ?_
  rotate_left
  · (intro w hSw; (try dsimp only at hSw); go_simp; (try (with_reducible rfl)))
  change wpAnyH _ _ _ _ _ _ _ (Act.put _ (some 9) _) _
  simp only [Act.put, List.setIfInBounds_toArray, List.set_cons_succ, List.set_cons_zero]
  refine wpAnyH_done (by kernel_rfl) ?_ _
  exact hQ _ _ _ hP3 _ _ _ _ _ _ _ _ _ _ _ _ _ _ _ _
set_option maxRecDepth 1000000 in
set_option maxHeartbeats 8000000 in
theorem led_now {Q : Exit → Act → World → Prop} {u2 u3 u4 u6 u7 u8 u9 u10 u11 u12 u13 u14 u15 u16 u17 u18 u19 u20 u21 u22 u23 u24 u25 u26 u27 : Value} (hP : ∀ c a d v w, Q (.panic c) (Act.put a d v) w → Q (.panic c) a w) {l g x nT : Nat} {c p q e0 : Int} {b : Bool} {W : World} {P : Option Addr → Nat → World → Prop} (HM : Calls Tryz.prog 184 #[.pointer (some ⟨x, 0, none⟩), .int .i64 c, .bool b, .int .u64 p, .int .u64 q] W.drew fun e w' => ∃ a d, e = .returned (.tuple #[.slice a nT d, .int .i64 e0]) ∧ P a d w') (HS : Hid (∀ a d w', P a d w' → w'.cell? ⟨l, 2, none⟩ = some (.pointer (some ⟨x, 0, none⟩)) ∧ w'.cell? ⟨g, 3, none⟩ = some (.bool b) ∧ w'.cell? ⟨g, 4, none⟩ = some (.int .u64 p) ∧ w'.cell? ⟨g, 5, none⟩ = some (.int .u64 q))) (l2 : W.cell? ⟨l, 2, none⟩ = some (.pointer (some ⟨x, 0, none⟩))) (y3 : W.cell? ⟨g, 3, none⟩ = some (.bool b)) (y4 : W.cell? ⟨g, 4, none⟩ = some (.int .u64 p)) (y5 : W.cell? ⟨g, 5, none⟩ = some (.int .u64 q))
    (hQ : ∀ (a3 : Option Addr) (d3 : Nat) (w3 : World) (_ : P a3 d3 w3) (x9 x10 x11 x12 x13 x14 x15 x16 x17 x18 x19 x20 x21 x22 x23 : Value), Q .normal ⟨#[.pointer (some ⟨l, 0, none⟩), .int .i64 c, u2, u3, u4, .pointer (some ⟨g, 0, none⟩), u6, .slice a3 nT d3, .int .i64 e0, x9, x10, x11, x12, x13, x14, x15, x16, x17, x18, x19, x20, x21, x22, x23, u24, u25, u26, u27], []⟩ w3) :
    Code.wp Tryz.prog (regionOf Tryz.f167 1) Q ⟨#[.pointer (some ⟨l, 0, none⟩), .int .i64 c, u2, u3, u4, .pointer (some ⟨g, 0, none⟩), u6, u7, u8, u9, u10, u11, u12, u13, u14, u15, u16, u17, u18, u19, u20, u21, u22, u23, u24, u25, u26, u27], []⟩ W := by
  conv => arg 2; whnf
  refine wp_region_held_drew (S := (fun w' => w'.cell? ⟨l, 2, none⟩ = some (.pointer (some ⟨x, 0, none⟩)) ∧ w'.cell? ⟨g, 3, none⟩ = some (.bool b) ∧ w'.cell? ⟨g, 4, none⟩ = some (.int .u64 p) ∧ w'.cell? ⟨g, 5, none⟩ = some (.int .u64 q))) (by kernel_rfl) ⟨l2, y3, y4, y5⟩ (fun _ => ?_)
  refine wpAnyH_take (i := 0) (v := ?_) rfl (by kernel_rfl) (by kernel_rfl) (by kernel_rfl) (fun c a w h => hP c a _ _ w h) (Or.inl ⟨by rfl, ?_⟩) ⟨l2, y3, y4, y5⟩ ?_
  rotate_left
  · (intro w hSw; (try dsimp only at hSw); go_simp; (try (with_reducible rfl)))
  change wpAnyH _ _ _ _ _ _ _ (Act.put _ (some 10) _) _
  simp only [Act.put, List.setIfInBounds_toArray, List.set_cons_succ, List.set_cons_zero]
  refine wpAnyH_take (i := 1) (v := ?_) rfl (by kernel_rfl) (by kernel_rfl) (by kernel_rfl) (fun c a w h => hP c a _ _ w h) (Or.inl ⟨by rfl, ?_⟩) ⟨l2, y3, y4, y5⟩ ?_
  rotate_left
  · (intro w hSw; (try dsimp only at hSw); go_simp; (try (with_reducible rfl)))
  change wpAnyH _ _ _ _ _ _ _ (Act.put _ (some 11) _) _
  simp only [Act.put, List.setIfInBounds_toArray, List.set_cons_succ, List.set_cons_zero]
  refine wpAnyH_take (i := 2) (v := ?_) rfl (by kernel_rfl) (by kernel_rfl) (by kernel_rfl) (fun c a w h => hP c a _ _ w h) (Or.inl ⟨by rfl, ?_⟩) ⟨l2, y3, y4, y5⟩ ?_
  rotate_left
  · (intro w hSw; (try dsimp only at hSw); go_simp; (try (with_reducible rfl)))
  change wpAnyH _ _ _ _ _ _ _ (Act.put _ (some 12) _) _
  simp only [Act.put, List.setIfInBounds_toArray, List.set_cons_succ, List.set_cons_zero]
  refine wpAnyH_take (i := 3) (v := ?_) rfl (by kernel_rfl) (by kernel_rfl) (by kernel_rfl) (fun c a w h => hP c a _ _ w h) (Or.inl ⟨by rfl, ?_⟩) ⟨l2, y3, y4, y5⟩ ?_
  rotate_left
  · (intro w hSw; (try dsimp only at hSw); go_simp; (try (with_reducible rfl)))
  change wpAnyH _ _ _ _ _ _ _ (Act.put _ (some 13) _) _
  simp only [Act.put, List.setIfInBounds_toArray, List.set_cons_succ, List.set_cons_zero]
  refine wpAnyH_take (i := 4) (v := ?_) rfl (by kernel_rfl) (by kernel_rfl) (by kernel_rfl) (fun c a w h => hP c a _ _ w h) (Or.inl ⟨by rfl, ?_⟩) ⟨l2, y3, y4, y5⟩ ?_
  rotate_left
  · (intro w hSw; (try dsimp only at hSw); go_simp; (try (with_reducible rfl)))
  change wpAnyH _ _ _ _ _ _ _ (Act.put _ (some 14) _) _
  simp only [Act.put, List.setIfInBounds_toArray, List.set_cons_succ, List.set_cons_zero]
  refine wpAnyH_take (i := 5) (v := ?_) rfl (by kernel_rfl) (by kernel_rfl) (by kernel_rfl) (fun c a w h => hP c a _ _ w h) (Or.inl ⟨by rfl, ?_⟩) ⟨l2, y3, y4, y5⟩ ?_
  rotate_left
  · (intro w hSw; (try dsimp only at hSw); go_simp; (try (with_reducible rfl)))
  change wpAnyH _ _ _ _ _ _ _ (Act.put _ (some 15) _) _
  simp only [Act.put, List.setIfInBounds_toArray, List.set_cons_succ, List.set_cons_zero]
  refine wpAnyH_take (i := 6) (v := ?_) rfl (by kernel_rfl) (by kernel_rfl) (by kernel_rfl) (fun c a w h => hP c a _ _ w h) (Or.inl ⟨by rfl, ?_⟩) ⟨l2, y3, y4, y5⟩ ?_
  rotate_left
  · (intro w hSw; (try dsimp only at hSw); go_simp; (try (with_reducible rfl)))
  change wpAnyH _ _ _ _ _ _ _ (Act.put _ (some 16) _) _
  simp only [Act.put, List.setIfInBounds_toArray, List.set_cons_succ, List.set_cons_zero]
  refine wpAnyH_take (i := 7) (v := ?_) rfl (by kernel_rfl) (by kernel_rfl) (by kernel_rfl) (fun c a w h => hP c a _ _ w h) (Or.inl ⟨by rfl, ?_⟩) ⟨l2, y3, y4, y5⟩ ?_
  rotate_left
  · (intro w hSw; (try dsimp only at hSw); go_simp; (try (with_reducible rfl)))
  change wpAnyH _ _ _ _ _ _ _ (Act.put _ (some 17) _) _
  simp only [Act.put, List.setIfInBounds_toArray, List.set_cons_succ, List.set_cons_zero]
  refine wpAnyH_take (i := 8) (v := ?_) rfl (by kernel_rfl) (by kernel_rfl) (by kernel_rfl) (fun c a w h => hP c a _ _ w h) (Or.inl ⟨by rfl, ?_⟩) ⟨l2, y3, y4, y5⟩ ?_
  rotate_left
  · (intro w hSw; (try dsimp only at hSw); go_simp; (try (with_reducible rfl)))
  change wpAnyH _ _ _ _ _ _ _ (Act.put _ (some 18) _) _
  simp only [Act.put, List.setIfInBounds_toArray, List.set_cons_succ, List.set_cons_zero]
  refine wpAnyH_take (i := 9) (v := ?_) rfl (by kernel_rfl) (by kernel_rfl) (by kernel_rfl) (fun c a w h => hP c a _ _ w h) (Or.inl ⟨by rfl, ?_⟩) ⟨l2, y3, y4, y5⟩ ?_
  rotate_left
  · (intro w hSw; (try dsimp only at hSw); go_simp; (try (with_reducible rfl)))
  change wpAnyH _ _ _ _ _ _ _ (Act.put _ (some 19) _) _
  simp only [Act.put, List.setIfInBounds_toArray, List.set_cons_succ, List.set_cons_zero]
  refine wpAnyH_take (i := 10) (v := ?_) rfl (by kernel_rfl) (by kernel_rfl) (by kernel_rfl) (fun c a w h => hP c a _ _ w h) (Or.inl ⟨by rfl, ?_⟩) ⟨l2, y3, y4, y5⟩ ?_
  rotate_left
  · (intro w hSw; (try dsimp only at hSw); go_simp; (try (with_reducible rfl)))
  change wpAnyH _ _ _ _ _ _ _ (Act.put _ (some 20) _) _
  simp only [Act.put, List.setIfInBounds_toArray, List.set_cons_succ, List.set_cons_zero]
  refine wpAnyH_ready (rs := [11]) (by kernel_rfl) (by simp) (AllReadyH.cons rfl (fun K hK => ?_) AllReadyH.nil)
  go_simp
  refine HM.mono ?_
  rintro e w3 ⟨a3, d3, rfl, hP3⟩
  have hz3 := HS.out a3 d3 w3 hP3
  go_wp2_with fail
  refine hK.out _ _ hz3 (fun hHeld => ?_)
  clear hK K
  refine wpAnyH_take (i := 12) (v := ?_) rfl (by kernel_rfl) (by kernel_rfl) (by kernel_rfl) (fun c a w h => hP c a _ _ w h) (Or.inl ⟨by rfl, ?_⟩) hz3 ?_
  rotate_left
  · (intro w hSw; (try dsimp only at hSw); go_simp; (try (with_reducible rfl)))
  change wpAnyH _ _ _ _ _ _ _ (Act.put _ (some 9) _) _
  simp only [Act.put, List.setIfInBounds_toArray, List.set_cons_succ, List.set_cons_zero]
  refine wpAnyH_take (i := 13) (v := ?_) rfl (by kernel_rfl) (by kernel_rfl) (by kernel_rfl) (fun c a w h => hP c a _ _ w h) (Or.inl ⟨by rfl, ?_⟩) hz3 ?_
  rotate_left
  · (intro w hSw; (try dsimp only at hSw); go_simp; (try (with_reducible rfl)))
  change wpAnyH _ _ _ _ _ _ _ (Act.put _ (some 22) _) _
  simp only [Act.put, List.setIfInBounds_toArray, List.set_cons_succ, List.set_cons_zero]
  refine wpAnyH_take (i := 14) (v := ?_) rfl (by kernel_rfl) (by kernel_rfl) (by kernel_rfl) (fun c a w h => hP c a _ _ w h) (Or.inl ⟨by rfl, ?_⟩) hz3 ?_
  rotate_left
  · (intro w hSw; (try dsimp only at hSw); go_simp; (try (with_reducible rfl)))
  change wpAnyH _ _ _ _ _ _ _ (Act.put _ (some 23) _) _
  simp only [Act.put, List.setIfInBounds_toArray, List.set_cons_succ, List.set_cons_zero]
  refine wpAnyH_take (i := 15) (v := ?_) rfl (by kernel_rfl) (by kernel_rfl) (by kernel_rfl) (fun c a w h => hP c a _ _ w h) (Or.inl ⟨by rfl, ?_⟩) hz3 ?_
  rotate_left
  · (intro w hSw; (try dsimp only at hSw); go_simp; (try (with_reducible rfl)))
  change wpAnyH _ _ _ _ _ _ _ (Act.put _ (some 7) _) _
  simp only [Act.put, List.setIfInBounds_toArray, List.set_cons_succ, List.set_cons_zero]
  refine wpAnyH_take (i := 16) (v := ?_) rfl (by kernel_rfl) (by kernel_rfl) (by kernel_rfl) (fun c a w h => hP c a _ _ w h) (Or.inl ⟨by rfl, ?_⟩) hz3 ?_
  rotate_left
  · (intro w hSw; (try dsimp only at hSw); go_simp; (try (with_reducible rfl)))
  change wpAnyH _ _ _ _ _ _ _ (Act.put _ (some 8) _) _
  simp only [Act.put, List.setIfInBounds_toArray, List.set_cons_succ, List.set_cons_zero]
  refine wpAnyH_done (by kernel_rfl) ?_ _
  exact hQ _ _ _ hP3 _ _ _ _ _ _ _ _ _ _ _ _ _ _ _
set_option maxRecDepth 100000 in
set_option maxHeartbeats 4000000 in
theorem lim_any {w wr : World} {l ab s fb mb x kb ns n : Nat} {F : List Nat} {m : Nat} {S : LS} (h : Led w wr l ab s fb mb x kb ns n F m S) (hk : S.k < 1000000) (c : Int) (t : Txx) (ht : t.Ok) (hc : I c) :
    Calls Tryz.prog 166 #[.pointer (some ⟨l, 0, none⟩), .int .i64 c, txv t] wr fun e w' => ActR w wr l ab s fb mb x kb ns n F m (lLim n S c t) e w' := by
  obtain ⟨kd, ax, td, by', p, q, i⟩ := t
  obtain ⟨tk, ta, tt, tp, tq, ti⟩ := ht
  dsimp only at tk ta tt tp tq ti 
  have hC : Chg [] wr ((wr.alloc (.cells #[.int .i64 kd, .int .i64 ax, .int .i64 td, .bool by', .int .u64 p, .int .u64 q, .int .i64 i] 49)).alloc (.cells #[.int .i64 0, .int .u64 0, .int .i64 0, .slice none 0 0] 46)) := ((Chg.refl _ _).alloc _).alloc _
  have h1 := h.to hC
  have hT : Blk ((wr.alloc (.cells #[.int .i64 kd, .int .i64 ax, .int .i64 td, .bool by', .int .u64 p, .int .u64 q, .int .i64 i] 49)).alloc (.cells #[.int .i64 0, .int .u64 0, .int .i64 0, .slice none 0 0] 46)) wr.heap.size 49 (txc ⟨kd, ax, td, by', p, q, i⟩) := (Blk.new wr (txc ⟨kd, ax, td, by', p, q, i⟩) 49).alloc _
  have hR : Blk ((wr.alloc (.cells #[.int .i64 kd, .int .i64 ax, .int .i64 td, .bool by', .int .u64 p, .int .u64 q, .int .i64 i] 49)).alloc (.cells #[.int .i64 0, .int .u64 0, .int .i64 0, .slice none 0 0] 46)) (wr.heap.size + 1) 46 [.int .i64 0, .int .u64 0, .int .i64 0, .slice none 0 0] := by
    have := Blk.new (wr.alloc (.cells #[.int .i64 kd, .int .i64 ax, .int .i64 td, .bool by', .int .u64 p, .int .u64 q, .int .i64 i] 49)) [.int .i64 0, .int .u64 0, .int .i64 0, .slice none 0 0] 46
    rwa [World.size_alloc] at this
  have HC := Lib.hid hC
  have o1 := Lib.hid (h.old (z := wr.heap.size + 1) (by omega))
  have o0 := Lib.hid (h.old (z := wr.heap.size) (by omega))
  have hgl : wr.heap.size + 1 < ((wr.alloc (.cells #[.int .i64 kd, .int .i64 ax, .int .i64 td, .bool by', .int .u64 p, .int .u64 q, .int .i64 i] 49)).alloc (.cells #[.int .i64 0, .int .u64 0, .int .i64 0, .slice none 0 0] 46)).heap.size := hR.lt
  have HW0 : Hid (∀ z, z = wr.heap.size + 1 → wr.heap.size ≤ z) := fun z e => by omega
  clear h hC
  go_enter Tryz.func166, Tryz.ntmps166
  go_upto_region 1 with (fail)
  generalize hgg : wr.heap.size + 1 = g1 at *
  generalize hg0 : wr.heap.size = g at *
  generalize (wr.alloc _).alloc _ = W at *
  have HGG := Lib.hid hgg
  have HG0 := Lib.hid hg0
  clear hgg
  have HW1 : Hid (wr.heap.size ≤ g1) := by show wr.heap.size ≤ g1; rw [HG0.out]; exact HW0.out g1 rfl
  have hgs : g < g1 := by have := HGG.out; omega
  have HGF : Hid (g ∉ x :: s :: F ∧ g1 ∉ x :: s :: F) := ⟨by simp; exact ⟨o0.out.x, o0.out.s, o0.out.f⟩, by simp; exact ⟨o1.out.x, o1.out.s, o1.out.f⟩⟩
  by_cases hE : mtE n S.xs c by' p q = 0
  · obtain ⟨T, hT0⟩ : ∃ T, (mres ⟨(S.k : Int) + 1, c, by', p, q⟩ S.L S.M).1 = T := ⟨_, rfl⟩
    obtain ⟨lft, hlft⟩ : ∃ T, (mres ⟨(S.k : Int) + 1, c, by', p, q⟩ S.L S.M).2.1 = T := ⟨_, rfl⟩
    obtain ⟨L', hL⟩ : ∃ T, mL ⟨(S.k : Int) + 1, c, by', p, q⟩ S.L S.M = T := ⟨_, rfl⟩
    obtain ⟨M', hM⟩ : ∃ T, mM ⟨(S.k : Int) + 1, c, by', p, q⟩ S.L S.M = T := ⟨_, rfl⟩
    obtain ⟨xs1, hx1⟩ : ∃ T, aTake n S.xs c (lockA ⟨(S.k : Int) + 1, c, by', p, q⟩) (lockN ⟨(S.k : Int) + 1, c, by', p, q⟩) = T := ⟨_, rfl⟩
    obtain ⟨xs2, hx2⟩ : ∃ z, T.foldl (payL n ⟨(S.k : Int) + 1, c, by', p, q⟩) xs1 = z := ⟨_, rfl⟩
    have HEQ : Hid (lLim n S c ⟨kd, ax, td, by', p, q, i⟩ = ({ S with xs := xs2, L := restL ⟨(S.k : Int) + 1, c, by', p, lft⟩ L', M := restM ⟨(S.k : Int) + 1, c, by', p, lft⟩ M', k := S.k + 1 }, ⟨0, 0, (S.k : Int) + 1, T⟩)) := by
      show _ = _
      unfold lLim lPaid lLeft lOrd
      dsimp only
      rw [if_pos hE, hx1, hT0, hlft, hL, hM, hx2]
    obtain ⟨nT, hnT⟩ : ∃ k, T.length = k := ⟨_, rfl⟩
    obtain ⟨S', hS'⟩ : ∃ z, z = ({ S with xs := xs2, L := restL ⟨(S.k : Int) + 1, c, by', p, lft⟩ L', M := restM ⟨(S.k : Int) + 1, c, by', p, lft⟩ M', k := S.k + 1 } : LS) := ⟨_, rfl⟩
    rw [← hS'] at HEQ
    have HM : Calls Tryz.prog 182 #[.pointer (some ⟨x, 0, none⟩), .int .i64 c, .bool by', .int .u64 p, .int .u64 q] W.drew fun e w' => ∃ a d, e = .returned (.tuple #[.int .i64 ((S.k : Int) + 1), .slice a nT d, .int .i64 0]) ∧ (fun a d w' => ∃ F', NewF tc w' W.drew.heap.size 99 a T ∧ Led w w' l ab s fb mb x kb ns n F' m S' ∧ Chg (l :: ns :: x :: s :: F) wr w' ∧ Grw W.drew.heap.size F F' ∧ Blk w' g 49 (txc ⟨kd, ax, td, by', p, q, i⟩) ∧ Blk w' g1 46 [.int .i64 0, .int .u64 0, .int .i64 0, .slice none 0 0] ∧ g1 < w'.heap.size) a d w' := by
      have hD : Chg [] W W.drew := (Chg.refl [] W).drew
      refine (limit_yes (h1.to hD).ex hk c by' p q tp tq hc hE xs1 xs2 T lft L' M' hx1 ⟨hT0, hlft⟩ hx2 hL hM).mono ?_
      rw [hnT]
      rintro e w6 ⟨a6, d6, rfl, hN6, F6, h6, c6, gr6, -⟩
      have hZ : g1 < W.drew.heap.size := hR.lt
      refine ⟨a6, d6, rfl, F6, hN6, ?_, ?_, gr6, (hT.chg hD (by simp)).chg c6 HGF.out.1, (hR.chg hD (by simp)).chg c6 HGF.out.2, Nat.lt_of_lt_of_le hZ c6.size⟩
      · rw [hS']
        exact (h1.to hD).exch h6 c6 gr6
      · exact ((HC.out.drew).mono (by simp)).trans (c6.mono (by intro z hz; simp at hz ⊢; rcases hz with e | e | e <;> simp [e]))
    have HNT := Lib.hid hnT
    obtain ⟨cap, _, _, hd⟩ := h1.hd
    refine led_lim (by intro c a d v w h; cases d <;> exact h) HM ?_ (hd.at (i := 2) rfl) (hT.at (i := 3) rfl) (hT.at (i := 4) rfl) (hT.at (i := 5) rfl) ?_
    · rintro a d w' ⟨F', hw⟩
      exact ⟨(hw.2.1.hd.elim fun _ z => z.2.2.at (i := 2) rfl), hw.2.2.2.2.1.at (i := 3) rfl, hw.2.2.2.2.1.at (i := 4) rfl, hw.2.2.2.2.1.at (i := 5) rfl⟩
    · rintro a3 d3 w3 ⟨F', hN3, h3, c3, g3, hT3, hR3, hg3⟩
      intros
      clear HM hx1 hx2 hT0 hlft hL hM hnT hS' hE hd h1 hT hR HC
      have r0 := hR3.at (i := 0) rfl
      have f0 := hR3.free 0
      have r1 := hR3.at (i := 1) rfl
      have f1 := hR3.free 1
      have r2 := hR3.at (i := 2) rfl
      have f2 := hR3.free 2
      have r3 := hR3.at (i := 3) rfl
      have f3 := hR3.free 3
      have hL3 := Lib.hid (Lfar.grow o1.out g3 hgl)
      have hgl2 : g1 < W.drew.heap.size := hgl
      have hg4 : Hid (Grw g F F') := fun z hz => (g3 z hz).imp id fun e => by omega
      have hz := h3.fresh (stoR_chg (Chg.refl [g1] w3) g1 0 0 ((S.k : Int) + 1) a3 nT d3 (.inl (by simp))) hL3.out
      have hcz := stoR_chg c3 g1 0 0 ((S.k : Int) + 1) a3 nT d3 (.inr HW1.out)
      have hNz := hN3.chg (stoR_chg (Chg.refl [g1] w3) g1 0 0 ((S.k : Int) + 1) a3 nT d3 (.inl (by simp))) (by simp; exact hgl2) |>.mono (D := g) (by omega)
      go_wp2_with fail
      refine (code_any 0 w3).mono ?_
      rintro e w4 ⟨rfl, rfl⟩
      go_wp2_with fail
      exact bodyPost_ret (v := rcv ⟨0, 0, (S.k : Int) + 1, T⟩ a3 nT d3) (by simp [results, Tryz.results166, go_sem, r0, r1, r2, r3, rcv, eCode]) rfl (by rw [HEQ.out]; exact ⟨a3, d3, F', by rw [HNT.out], by rw [HG0.out]; exact hNz, hz, hcz, by rw [HG0.out]; exact hg4.out⟩)
  · have HEQ : Hid (lLim n S c ⟨kd, ax, td, by', p, q, i⟩ = (S, no (eCode (mtE n S.xs c by' p q)))) := by
      show _ = _
      unfold lLim
      dsimp only
      rw [if_neg hE]
    obtain ⟨e0, he0⟩ : ∃ z, mtE n S.xs c by' p q = z := ⟨_, rfl⟩
    rw [he0] at HEQ hE
    have HM : Calls Tryz.prog 182 #[.pointer (some ⟨x, 0, none⟩), .int .i64 c, .bool by', .int .u64 p, .int .u64 q] W.drew fun e w' => ∃ a d, e = .returned (.tuple #[.int .i64 0, .slice a 0 d, .int .i64 e0]) ∧ (fun a d w' => a = none ∧ d = 0 ∧ Led w w' l ab s fb mb x kb ns n F m S ∧ Chg (l :: ns :: x :: s :: F) wr w' ∧ Blk w' g 49 (txc ⟨kd, ax, td, by', p, q, i⟩) ∧ Blk w' g1 46 [.int .i64 0, .int .u64 0, .int .i64 0, .slice none 0 0]) a d w' := by
      have hD : Chg [] W W.drew := (Chg.refl [] W).drew
      refine (limit_no (h1.to hD).ex hk c by' p q tp tq hc e0 he0 hE).mono ?_
      rintro e w6 ⟨rfl, h6, c6⟩
      have c7 : Chg (x :: s :: F) W.drew w6 := c6.mono (by simp)
      refine ⟨none, 0, rfl, rfl, rfl, (h1.to hD).exch h6 c7 (Grw.refl _ _), ((HC.out.drew).mono (by simp)).trans (c7.mono (by intro z hz; simp at hz ⊢; rcases hz with e | e | e <;> simp [e])), (hT.chg hD (by simp)).chg c7 HGF.out.1, (hR.chg hD (by simp)).chg c7 HGF.out.2⟩
    obtain ⟨cap, _, _, hd⟩ := h1.hd
    refine led_lim (by intro c a d v w h; cases d <;> exact h) HM ?_ (hd.at (i := 2) rfl) (hT.at (i := 3) rfl) (hT.at (i := 4) rfl) (hT.at (i := 5) rfl) ?_
    · rintro a d w' ⟨rfl, rfl, hw⟩
      exact ⟨(hw.1.hd.elim fun _ z => z.2.2.at (i := 2) rfl), hw.2.2.1.at (i := 3) rfl, hw.2.2.1.at (i := 4) rfl, hw.2.2.1.at (i := 5) rfl⟩
    · rintro a3 d3 w3 ⟨rfl, rfl, h3, c3, hT3, hR3⟩
      intros
      clear HM he0 hE hd h1 hT hR HC
      have r0 := hR3.at (i := 0) rfl
      have f0 := hR3.free 0
      have r1 := hR3.at (i := 1) rfl
      have f1 := hR3.free 1
      have r2 := hR3.at (i := 2) rfl
      have f2 := hR3.free 2
      have r3 := hR3.at (i := 3) rfl
      have f3 := hR3.free 3
      have hz := h3.fresh (stoR_chg (Chg.refl [g1] w3) g1 (eCode e0) 0 0 none 0 0 (.inl (by simp))) o1.out
      have hcz := stoR_chg c3 g1 (eCode e0) 0 0 none 0 0 (.inr HW1.out)
      go_wp2_with fail
      refine (code_any e0 w3).mono ?_
      rintro e w4 ⟨rfl, rfl⟩
      go_wp2_with fail
      exact bodyPost_ret (v := rcv (no (eCode e0)) none 0 0) (by simp [results, Tryz.results166, go_sem, r0, r1, r2, r3, rcv, no]) rfl (by rw [HEQ.out]; exact ActR.of hz hcz (fun z hz => hz))
set_option maxRecDepth 100000 in
set_option maxHeartbeats 4000000 in
theorem now_any {w wr : World} {l ab s fb mb x kb ns n : Nat} {F : List Nat} {m : Nat} {S : LS} (h : Led w wr l ab s fb mb x kb ns n F m S) (hk : S.k < 1000000) (c : Int) (t : Txx) (ht : t.Ok) (hc : I c) :
    Calls Tryz.prog 167 #[.pointer (some ⟨l, 0, none⟩), .int .i64 c, txv t] wr fun e w' => ActR w wr l ab s fb mb x kb ns n F m (lNow n S c t) e w' := by
  obtain ⟨kd, ax, td, by', p, q, i⟩ := t
  obtain ⟨tk, ta, tt, tp, tq, ti⟩ := ht
  dsimp only at tk ta tt tp tq ti 
  have hC : Chg [] wr ((wr.alloc (.cells #[.int .i64 kd, .int .i64 ax, .int .i64 td, .bool by', .int .u64 p, .int .u64 q, .int .i64 i] 49)).alloc (.cells #[.int .i64 0, .int .u64 0, .int .i64 0, .slice none 0 0] 46)) := ((Chg.refl _ _).alloc _).alloc _
  have h1 := h.to hC
  have hT : Blk ((wr.alloc (.cells #[.int .i64 kd, .int .i64 ax, .int .i64 td, .bool by', .int .u64 p, .int .u64 q, .int .i64 i] 49)).alloc (.cells #[.int .i64 0, .int .u64 0, .int .i64 0, .slice none 0 0] 46)) wr.heap.size 49 (txc ⟨kd, ax, td, by', p, q, i⟩) := (Blk.new wr (txc ⟨kd, ax, td, by', p, q, i⟩) 49).alloc _
  have hR : Blk ((wr.alloc (.cells #[.int .i64 kd, .int .i64 ax, .int .i64 td, .bool by', .int .u64 p, .int .u64 q, .int .i64 i] 49)).alloc (.cells #[.int .i64 0, .int .u64 0, .int .i64 0, .slice none 0 0] 46)) (wr.heap.size + 1) 46 [.int .i64 0, .int .u64 0, .int .i64 0, .slice none 0 0] := by
    have := Blk.new (wr.alloc (.cells #[.int .i64 kd, .int .i64 ax, .int .i64 td, .bool by', .int .u64 p, .int .u64 q, .int .i64 i] 49)) [.int .i64 0, .int .u64 0, .int .i64 0, .slice none 0 0] 46
    rwa [World.size_alloc] at this
  have HC := Lib.hid hC
  have o1 := Lib.hid (h.old (z := wr.heap.size + 1) (by omega))
  have o0 := Lib.hid (h.old (z := wr.heap.size) (by omega))
  have hgl : wr.heap.size + 1 < ((wr.alloc (.cells #[.int .i64 kd, .int .i64 ax, .int .i64 td, .bool by', .int .u64 p, .int .u64 q, .int .i64 i] 49)).alloc (.cells #[.int .i64 0, .int .u64 0, .int .i64 0, .slice none 0 0] 46)).heap.size := hR.lt
  have HW0 : Hid (∀ z, z = wr.heap.size + 1 → wr.heap.size ≤ z) := fun z e => by omega
  clear h hC
  go_enter Tryz.func167, Tryz.ntmps167
  go_upto_region 1 with (fail)
  generalize hgg : wr.heap.size + 1 = g1 at *
  generalize hg0 : wr.heap.size = g at *
  generalize (wr.alloc _).alloc _ = W at *
  have HGG := Lib.hid hgg
  have HG0 := Lib.hid hg0
  clear hgg
  have HW1 : Hid (wr.heap.size ≤ g1) := by show wr.heap.size ≤ g1; rw [HG0.out]; exact HW0.out g1 rfl
  have hgs : g < g1 := by have := HGG.out; omega
  have HGF : Hid (g ∉ x :: s :: F ∧ g1 ∉ x :: s :: F) := ⟨by simp; exact ⟨o0.out.x, o0.out.s, o0.out.f⟩, by simp; exact ⟨o1.out.x, o1.out.s, o1.out.f⟩⟩
  by_cases hE : mtE n S.xs c by' p q = 0
  · obtain ⟨T, hT0⟩ : ∃ T, (mres ⟨(S.k : Int) + 1, c, by', p, q⟩ S.L S.M).1 = T := ⟨_, rfl⟩
    obtain ⟨lft, hlft⟩ : ∃ T, (mres ⟨(S.k : Int) + 1, c, by', p, q⟩ S.L S.M).2.1 = T := ⟨_, rfl⟩
    obtain ⟨L', hL⟩ : ∃ T, mL ⟨(S.k : Int) + 1, c, by', p, q⟩ S.L S.M = T := ⟨_, rfl⟩
    obtain ⟨M', hM⟩ : ∃ T, mM ⟨(S.k : Int) + 1, c, by', p, q⟩ S.L S.M = T := ⟨_, rfl⟩
    obtain ⟨xs1, hx1⟩ : ∃ T, aTake n S.xs c (lockA ⟨(S.k : Int) + 1, c, by', p, q⟩) (lockN ⟨(S.k : Int) + 1, c, by', p, q⟩) = T := ⟨_, rfl⟩
    obtain ⟨xs2, hx2⟩ : ∃ z, T.foldl (payL n ⟨(S.k : Int) + 1, c, by', p, q⟩) xs1 = z := ⟨_, rfl⟩
    have HEQ : Hid (lNow n S c ⟨kd, ax, td, by', p, q, i⟩ = ({ S with xs := aPut n xs2 c (lockA ⟨(S.k : Int) + 1, c, by', p, lft⟩) (lockN ⟨(S.k : Int) + 1, c, by', p, lft⟩), L := L', M := M', k := S.k + 1 }, ⟨0, 0, 0, T⟩)) := by
      show _ = _
      unfold lNow lPaid lLeft lOrd
      dsimp only
      rw [if_pos hE, hx1, hT0, hlft, hL, hM, hx2]
    obtain ⟨nT, hnT⟩ : ∃ k, T.length = k := ⟨_, rfl⟩
    obtain ⟨S', hS'⟩ : ∃ z, z = ({ S with xs := aPut n xs2 c (lockA ⟨(S.k : Int) + 1, c, by', p, lft⟩) (lockN ⟨(S.k : Int) + 1, c, by', p, lft⟩), L := L', M := M', k := S.k + 1 } : LS) := ⟨_, rfl⟩
    rw [← hS'] at HEQ
    have HM : Calls Tryz.prog 184 #[.pointer (some ⟨x, 0, none⟩), .int .i64 c, .bool by', .int .u64 p, .int .u64 q] W.drew fun e w' => ∃ a d, e = .returned (.tuple #[.slice a nT d, .int .i64 0]) ∧ (fun a d w' => ∃ F', NewF tc w' W.drew.heap.size 99 a T ∧ Led w w' l ab s fb mb x kb ns n F' m S' ∧ Chg (l :: ns :: x :: s :: F) wr w' ∧ Grw W.drew.heap.size F F' ∧ Blk w' g 49 (txc ⟨kd, ax, td, by', p, q, i⟩) ∧ Blk w' g1 46 [.int .i64 0, .int .u64 0, .int .i64 0, .slice none 0 0] ∧ g1 < w'.heap.size) a d w' := by
      have hD : Chg [] W W.drew := (Chg.refl [] W).drew
      refine (now_yes (h1.to hD).ex hk c by' p q tp tq hc hE xs1 xs2 T lft L' M' hx1 ⟨hT0, hlft⟩ hx2 hL hM).mono ?_
      rw [hnT]
      rintro e w6 ⟨a6, d6, rfl, hN6, h6, c6⟩
      have hZ : g1 < W.drew.heap.size := hR.lt
      refine ⟨a6, d6, rfl, F, hN6, ?_, ?_, (Grw.refl _ _), (hT.chg hD (by simp)).chg c6 HGF.out.1, (hR.chg hD (by simp)).chg c6 HGF.out.2, Nat.lt_of_lt_of_le hZ c6.size⟩
      · rw [hS']
        exact (h1.to hD).exch h6 c6 (Grw.refl _ _)
      · exact ((HC.out.drew).mono (by simp)).trans (c6.mono (by intro z hz; simp at hz ⊢; rcases hz with e | e | e <;> simp [e]))
    have HNT := Lib.hid hnT
    obtain ⟨cap, _, _, hd⟩ := h1.hd
    refine led_now (by intro c a d v w h; cases d <;> exact h) HM ?_ (hd.at (i := 2) rfl) (hT.at (i := 3) rfl) (hT.at (i := 4) rfl) (hT.at (i := 5) rfl) ?_
    · rintro a d w' ⟨F', hw⟩
      exact ⟨(hw.2.1.hd.elim fun _ z => z.2.2.at (i := 2) rfl), hw.2.2.2.2.1.at (i := 3) rfl, hw.2.2.2.2.1.at (i := 4) rfl, hw.2.2.2.2.1.at (i := 5) rfl⟩
    · rintro a3 d3 w3 ⟨F', hN3, h3, c3, g3, hT3, hR3, hg3⟩
      intros
      clear HM hx1 hx2 hT0 hlft hL hM hnT hS' hE hd h1 hT hR HC
      have r0 := hR3.at (i := 0) rfl
      have f0 := hR3.free 0
      have r1 := hR3.at (i := 1) rfl
      have f1 := hR3.free 1
      have r2 := hR3.at (i := 2) rfl
      have f2 := hR3.free 2
      have r3 := hR3.at (i := 3) rfl
      have f3 := hR3.free 3
      have hL3 := Lib.hid (Lfar.grow o1.out g3 hgl)
      have hgl2 : g1 < W.drew.heap.size := hgl
      have hg4 : Hid (Grw g F F') := fun z hz => (g3 z hz).imp id fun e => by omega
      have hz := h3.fresh (stoR_chg (Chg.refl [g1] w3) g1 0 0 (0) a3 nT d3 (.inl (by simp))) hL3.out
      have hcz := stoR_chg c3 g1 0 0 (0) a3 nT d3 (.inr HW1.out)
      have hNz := hN3.chg (stoR_chg (Chg.refl [g1] w3) g1 0 0 (0) a3 nT d3 (.inl (by simp))) (by simp; exact hgl2) |>.mono (D := g) (by omega)
      go_wp2_with fail
      refine (code_any 0 w3).mono ?_
      rintro e w4 ⟨rfl, rfl⟩
      go_wp2_with fail
      exact bodyPost_ret (v := rcv ⟨0, 0, 0, T⟩ a3 nT d3) (by simp [results, Tryz.results167, go_sem, r0, r1, r2, r3, rcv, eCode]) rfl (by rw [HEQ.out]; exact ⟨a3, d3, F', by rw [HNT.out], by rw [HG0.out]; exact hNz, hz, hcz, by rw [HG0.out]; exact hg4.out⟩)
  · have HEQ : Hid (lNow n S c ⟨kd, ax, td, by', p, q, i⟩ = (S, no (eCode (mtE n S.xs c by' p q)))) := by
      show _ = _
      unfold lNow
      dsimp only
      rw [if_neg hE]
    obtain ⟨e0, he0⟩ : ∃ z, mtE n S.xs c by' p q = z := ⟨_, rfl⟩
    rw [he0] at HEQ hE
    have HM : Calls Tryz.prog 184 #[.pointer (some ⟨x, 0, none⟩), .int .i64 c, .bool by', .int .u64 p, .int .u64 q] W.drew fun e w' => ∃ a d, e = .returned (.tuple #[.slice a 0 d, .int .i64 e0]) ∧ (fun a d w' => a = none ∧ d = 0 ∧ Led w w' l ab s fb mb x kb ns n F m S ∧ Chg (l :: ns :: x :: s :: F) wr w' ∧ Blk w' g 49 (txc ⟨kd, ax, td, by', p, q, i⟩) ∧ Blk w' g1 46 [.int .i64 0, .int .u64 0, .int .i64 0, .slice none 0 0]) a d w' := by
      have hD : Chg [] W W.drew := (Chg.refl [] W).drew
      refine (now_no (h1.to hD).ex hk c by' p q tp tq hc e0 he0 hE).mono ?_
      rintro e w6 ⟨rfl, h6, c6⟩
      have c7 : Chg (x :: s :: F) W.drew w6 := c6.mono (by simp)
      refine ⟨none, 0, rfl, rfl, rfl, (h1.to hD).exch h6 c7 (Grw.refl _ _), ((HC.out.drew).mono (by simp)).trans (c7.mono (by intro z hz; simp at hz ⊢; rcases hz with e | e | e <;> simp [e])), (hT.chg hD (by simp)).chg c7 HGF.out.1, (hR.chg hD (by simp)).chg c7 HGF.out.2⟩
    obtain ⟨cap, _, _, hd⟩ := h1.hd
    refine led_now (by intro c a d v w h; cases d <;> exact h) HM ?_ (hd.at (i := 2) rfl) (hT.at (i := 3) rfl) (hT.at (i := 4) rfl) (hT.at (i := 5) rfl) ?_
    · rintro a d w' ⟨rfl, rfl, hw⟩
      exact ⟨(hw.1.hd.elim fun _ z => z.2.2.at (i := 2) rfl), hw.2.2.1.at (i := 3) rfl, hw.2.2.1.at (i := 4) rfl, hw.2.2.1.at (i := 5) rfl⟩
    · rintro a3 d3 w3 ⟨rfl, rfl, h3, c3, hT3, hR3⟩
      intros
      clear HM he0 hE hd h1 hT hR HC
      have r0 := hR3.at (i := 0) rfl
      have f0 := hR3.free 0
      have r1 := hR3.at (i := 1) rfl
      have f1 := hR3.free 1
      have r2 := hR3.at (i := 2) rfl
      have f2 := hR3.free 2
      have r3 := hR3.at (i := 3) rfl
      have f3 := hR3.free 3
      have hz := h3.fresh (stoR_chg (Chg.refl [g1] w3) g1 (eCode e0) 0 0 none 0 0 (.inl (by simp))) o1.out
      have hcz := stoR_chg c3 g1 (eCode e0) 0 0 none 0 0 (.inr HW1.out)
      go_wp2_with fail
      refine (code_any e0 w3).mono ?_
      rintro e w4 ⟨rfl, rfl⟩
      go_wp2_with fail
      exact bodyPost_ret (v := rcv (no (eCode e0)) none 0 0) (by simp [results, Tryz.results167, go_sem, r0, r1, r2, r3, rcv, no]) rfl (by rw [HEQ.out]; exact ActR.of hz hcz (fun z hz => hz))
end Go.Proofs.YteabcpmpcbjicaaGreat

namespace Go.Proofs.YteabcpmpcbjicaaGreat
set_option linter.unusedVariables false
open Go Go.Proofs Go.RowKit
attribute [local go_sem ↓] Go.wp_at_zero Go.wp_at_succ

set_option maxRecDepth 100000 in
set_option maxHeartbeats 2000000 in
theorem can_any {w wr : World} {l ab s fb mb x kb ns n : Nat} {F : List Nat} {m : Nat} {S : LS} (h : Led w wr l ab s fb mb x kb ns n F m S) (hk : S.k < 1000000) (c : Int) (t : Txx) (ht : t.Ok) :
    Calls Tryz.prog 168 #[.pointer (some ⟨l, 0, none⟩), .int .i64 c, txv t] wr fun e w' => ActR w wr l ab s fb mb x kb ns n F m (lCan n S c t) e w' := by
  obtain ⟨kd, ax, td, by', p, q, i⟩ := t
  obtain ⟨tk, ta, tt, tp, tq, ti⟩ := ht
  dsimp only at tk ta tt tp tq ti 
  have hC : Chg [] wr ((wr.alloc (.cells #[.int .i64 kd, .int .i64 ax, .int .i64 td, .bool by', .int .u64 p, .int .u64 q, .int .i64 i] 49)).alloc (.cells #[.int .i64 0, .int .u64 0, .int .i64 0, .slice none 0 0] 46)) := ((Chg.refl _ _).alloc _).alloc _
  have h1 := h.to hC
  have hT : Blk ((wr.alloc (.cells #[.int .i64 kd, .int .i64 ax, .int .i64 td, .bool by', .int .u64 p, .int .u64 q, .int .i64 i] 49)).alloc (.cells #[.int .i64 0, .int .u64 0, .int .i64 0, .slice none 0 0] 46)) wr.heap.size 49 (txc ⟨kd, ax, td, by', p, q, i⟩) := (Blk.new wr (txc ⟨kd, ax, td, by', p, q, i⟩) 49).alloc _
  have hR : Blk ((wr.alloc (.cells #[.int .i64 kd, .int .i64 ax, .int .i64 td, .bool by', .int .u64 p, .int .u64 q, .int .i64 i] 49)).alloc (.cells #[.int .i64 0, .int .u64 0, .int .i64 0, .slice none 0 0] 46)) (wr.heap.size + 1) 46 [.int .i64 0, .int .u64 0, .int .i64 0, .slice none 0 0] := by
    have := Blk.new (wr.alloc (.cells #[.int .i64 kd, .int .i64 ax, .int .i64 td, .bool by', .int .u64 p, .int .u64 q, .int .i64 i] 49)) [.int .i64 0, .int .u64 0, .int .i64 0, .slice none 0 0] 46
    rwa [World.size_alloc] at this
  have HC := Lib.hid hC
  have o1 := Lib.hid (h.old (z := wr.heap.size + 1) (by omega))
  have o0 := Lib.hid (h.old (z := wr.heap.size) (by omega))
  have hgl : wr.heap.size + 1 < ((wr.alloc (.cells #[.int .i64 kd, .int .i64 ax, .int .i64 td, .bool by', .int .u64 p, .int .u64 q, .int .i64 i] 49)).alloc (.cells #[.int .i64 0, .int .u64 0, .int .i64 0, .slice none 0 0] 46)).heap.size := hR.lt
  have HW0 : Hid (∀ z, z = wr.heap.size + 1 → wr.heap.size ≤ z) := fun z e => by omega
  clear h hC
  go_enter Tryz.func168, Tryz.ntmps168
  go_upto_region 1 with (fail)
  generalize hgg : wr.heap.size + 1 = g1 at *
  generalize hg0 : wr.heap.size = g at *
  generalize (wr.alloc _).alloc _ = W at *
  have HGG := Lib.hid hgg
  have HG0 := Lib.hid hg0
  clear hgg
  have HW1 : Hid (wr.heap.size ≤ g1) := by show wr.heap.size ≤ g1; rw [HG0.out]; exact HW0.out g1 rfl
  have HGF : Hid (g1 ∉ x :: s :: F) := by show g1 ∉ x :: s :: F; simp; exact ⟨o1.out.x, o1.out.s, o1.out.f⟩
  obtain ⟨oo, ok, hP⟩ : ∃ oo ok, pickB i S.L S.M = (oo, ok) := ⟨_, _, rfl⟩
  have HEQ : Hid (lCan n S c ⟨kd, ax, td, by', p, q, i⟩ = if ok = true ∧ oo.client = c then ({ S with xs := aPut n S.xs c (lockA oo) (lockN oo), L := sans i S.L, M := remM i S.L S.M }, no 0) else (S, no 8)) := by
    show _ = _
    unfold lCan
    dsimp only
    rw [hP]
  have HP := Lib.hid hP
  clear hP
  have y6 := hT.at (i := 6) rfl
  obtain ⟨cap, _, _, hd⟩ := h1.hd
  have d2 := hd.at (i := 2) rfl
  go_still_tail 7, (by kernel_rfl)
  change wpList _ _ _ _ _ W.drew
  have h2 := h1.to (Chg.refl [] W).drew
  have hR2 := hR.drew
  have C2 := Lib.hid HC.out.drew
  clear y6 d2 h1 hT hR HC hd
  generalize W.drew = V at *
  by_cases hcc : ok = true ∧ oo.client = c
  · obtain ⟨rfl, hc2⟩ := hcc
    have HC := Lib.hid hc2
    clear hc2
    go_wp2_with fail
    refine (cancel_yes h2.ex (by omega) i oo HP.out c HC.out).mono ?_
    rintro e w6 ⟨rfl, h6, c6⟩
    have c7 : Chg (x :: s :: F) V w6 := c6.mono (by simp +contextual)
    have h3 := h2.exch h6 c7 (Grw.refl _ _)
    have hR3 := hR2.chg c7 HGF.out
    have C3 := Lib.hid ((C2.out.mono (R := l :: ns :: x :: s :: F) (by simp)).trans (c7.mono (by intro z hz; simp at hz ⊢; rcases hz with e | e | e <;> simp [e])))
    clear h2 hR2 C2 h6 c6 c7
    have r0 := hR3.at (i := 0) rfl
    have f0 := hR3.free 0
    have r1 := hR3.at (i := 1) rfl
    have f1 := hR3.free 1
    have r2 := hR3.at (i := 2) rfl
    have f2 := hR3.free 2
    have r3 := hR3.at (i := 3) rfl
    have f3 := hR3.free 3
    have hz := h3.fresh (stoR_chg (Chg.refl [g1] w6) g1 0 0 0 none 0 0 (.inl (by simp))) o1.out
    have hcz := stoR_chg C3.out g1 0 0 0 none 0 0 (.inr HW1.out)
    go_wp2_with fail
    refine (code_any 0 w6).mono ?_
    rintro e w4 ⟨rfl, rfl⟩
    go_wp2_with fail
    exact bodyPost_ret (v := rcv (no 0) none 0 0) (by simp [results, Tryz.results168, go_sem, r0, r1, r2, r3, rcv, no, eCode]) rfl (by rw [HEQ.out, if_pos (by simp [HC.out])]; exact ActR.of hz hcz (fun z hz => hz))
  · have hne : ok = false ∨ oo.client ≠ c := by
      cases ok
      · exact .inl rfl
      · exact .inr fun e => hcc ⟨rfl, e⟩
    have HCC := Lib.hid hcc
    have HC := Lib.hid hne
    clear hne hcc
    go_wp2_with fail
    refine (cancel_no h2.ex (by omega) i oo ok HP.out c HC.out).mono ?_
    rintro e w6 ⟨rfl, h6, c6⟩
    have c7 : Chg (x :: s :: F) V w6 := c6.mono (by simp +contextual)
    have h3 := h2.exch h6 c7 (Grw.refl _ _)
    have hR3 := hR2.chg c7 HGF.out
    have C3 := Lib.hid ((C2.out.mono (R := l :: ns :: x :: s :: F) (by simp)).trans (c7.mono (by intro z hz; simp at hz ⊢; rcases hz with e | e | e <;> simp [e])))
    clear h2 hR2 C2 h6 c6 c7
    have r0 := hR3.at (i := 0) rfl
    have f0 := hR3.free 0
    have r1 := hR3.at (i := 1) rfl
    have f1 := hR3.free 1
    have r2 := hR3.at (i := 2) rfl
    have f2 := hR3.free 2
    have r3 := hR3.at (i := 3) rfl
    have f3 := hR3.free 3
    have hz := h3.fresh (stoR_chg (Chg.refl [g1] w6) g1 8 0 0 none 0 0 (.inl (by simp))) o1.out
    have hcz := stoR_chg C3.out g1 8 0 0 none 0 0 (.inr HW1.out)
    go_wp2_with fail
    refine (code_any 7 w6).mono ?_
    rintro e w4 ⟨rfl, rfl⟩
    go_wp2_with fail
    exact bodyPost_ret (v := rcv (no 8) none 0 0) (by simp [results, Tryz.results168, go_sem, r0, r1, r2, r3, rcv, no, eCode]) rfl (by rw [HEQ.out, if_neg HCC.out]; exact ActR.of hz hcz (fun z hz => hz))
set_option maxRecDepth 100000 in
theorem way_any (k : Int) (w : World) : Calls Tryz.prog 128 #[.int .i64 k] w fun e w' => e = .returned (.func (.func (if k = 1 then 163 else if k = 2 then 164 else if k = 3 then 165 else if k = 4 then 166 else if k = 5 then 167 else 168)) #[] #[]) ∧ w = w' := by
  by_cases h1 : k = 1
  · subst h1
    go_enter Tryz.func128, Tryz.ntmps128
    go_wp2_with fail
    go_ret
    exact ⟨rfl, rfl⟩
  · have d1 : (k == 1) = false := beq_eq_false_iff_ne.2 h1
    by_cases h2 : k = 2
    · subst h2
      go_enter Tryz.func128, Tryz.ntmps128
      go_wp2_with fail
      go_ret
      exact ⟨rfl, rfl⟩
    · have d2 : (k == 2) = false := beq_eq_false_iff_ne.2 h2
      by_cases h3 : k = 3
      · subst h3
        go_enter Tryz.func128, Tryz.ntmps128
        go_wp2_with fail
        go_ret
        exact ⟨rfl, rfl⟩
      · have d3 : (k == 3) = false := beq_eq_false_iff_ne.2 h3
        by_cases h4 : k = 4
        · subst h4
          go_enter Tryz.func128, Tryz.ntmps128
          go_wp2_with fail
          go_ret
          exact ⟨rfl, rfl⟩
        · have d4 : (k == 4) = false := beq_eq_false_iff_ne.2 h4
          by_cases h5 : k = 5
          · subst h5
            go_enter Tryz.func128, Tryz.ntmps128
            go_wp2_with fail
            go_ret
            exact ⟨rfl, rfl⟩
          · have d5 : (k == 5) = false := beq_eq_false_iff_ne.2 h5
            have HE : Hid ((if k = 1 then 163 else if k = 2 then 164 else if k = 3 then 165 else if k = 4 then 166 else if k = 5 then 167 else 168) = 168) := by show _ = _; rw [if_neg h1, if_neg h2, if_neg h3, if_neg h4, if_neg h5]
            rw [HE.out]
            clear h1 h2 h3 h4 h5
            go_enter Tryz.func128, Tryz.ntmps128
            go_wp2_with fail
            go_ret
            exact ⟨rfl, rfl⟩
set_option maxRecDepth 100000 in
theorem twithin_any (a b : Int) (w : World) : Calls Tryz.prog 162 #[.int .i64 a, .int .i64 b] w fun e w' => e = .returned (.bool (tIn a b)) ∧ w = w' := by
  unfold tIn
  by_cases h1 : 0 ≤ a
  · have d1 : decide (0 ≤ a) = true := by simp [h1]
    rw [d1]
    by_cases h2 : a ≤ b
    · have d2 : decide (a ≤ b) = true := by simp [h2]
      rw [d2]
      go_enter Tryz.func162, Tryz.ntmps162
      go_wp2_with fail
      go_ret
      exact ⟨rfl, rfl⟩
    · have d2 : decide (a ≤ b) = false := by simp; omega
      rw [d2]
      go_enter Tryz.func162, Tryz.ntmps162
      go_wp2_with fail
      go_ret
      exact ⟨rfl, rfl⟩
  · have d1 : decide (0 ≤ a) = false := by simp; omega
    rw [d1]
    go_enter Tryz.func162, Tryz.ntmps162
    go_wp2_with fail
    go_ret
    exact ⟨rfl, rfl⟩
end Go.Proofs.YteabcpmpcbjicaaGreat

namespace Go.Proofs.YteabcpmpcbjicaaGreat
set_option linter.unusedVariables false
open Go Go.Proofs Go.RowKit
attribute [local go_sem ↓] Go.wp_at_zero Go.wp_at_succ

def sto7 (w : World) (g : Nat) (t : Txx) : World := ((((((w.setCell ⟨g, 0, none⟩ (.int .i64 t.kind)).setCell ⟨g, 1, none⟩ (.int .i64 t.asset)).setCell ⟨g, 2, none⟩ (.int .i64 t.dst)).setCell ⟨g, 3, none⟩ (.bool t.buy)).setCell ⟨g, 4, none⟩ (.int .u64 t.price)).setCell ⟨g, 5, none⟩ (.int .u64 t.qty)).setCell ⟨g, 6, none⟩ (.int .i64 t.id)
theorem sto7_chg {S : List Nat} {a w : World} (h : Chg S a w) (g : Nat) (t : Txx) (hs : g ∈ S ∨ a.heap.size ≤ g) : Chg S a (sto7 w g t) :=
  ((((((h.setCell _ _ hs).setCell _ _ hs).setCell _ _ hs).setCell _ _ hs).setCell _ _ hs).setCell _ _ hs).setCell _ _ hs
set_option maxRecDepth 100000 in
set_option maxHeartbeats 2000000 in
theorem fields1 (t : Txx) (hk : t.kind = 1) (w : World) :
    Calls Tryz.prog 161 #[txv t] w fun e w' => e = .returned (.tuple #[txv (txF t), .bool (txK t)]) ∧ Chg [] w w' := by
  obtain ⟨kd, ax, td, by', p, q, i⟩ := t
  dsimp only at hk
  subst hk
  have HT : Hid (txF ⟨1, ax, td, by', p, q, i⟩ = (⟨1, ax, 0, false, 0, q, 0⟩ : Txx) ∧ txK ⟨1, ax, td, by', p, q, i⟩ = true) := ⟨by simp [txF], by simp [txK]⟩
  have HF := HT.out.1
  have HK := HT.out.2
  rw [HF, HK]
  clear HF HK
  have B1 : Blk (((w.alloc (.cells #[.int .i64 1, .int .i64 ax, .int .i64 td, .bool by', .int .u64 p, .int .u64 q, .int .i64 i] 49)).alloc (.cells #[.int .i64 0, .int .i64 0, .int .i64 0, .bool false, .int .u64 0, .int .u64 0, .int .i64 0] 49)).alloc (.cells #[.int .i64 1, .int .i64 0, .int .i64 0, .bool false, .int .u64 0, .int .u64 0, .int .i64 0] 49)) w.heap.size 49 [.int .i64 1, .int .i64 ax, .int .i64 td, .bool by', .int .u64 p, .int .u64 q, .int .i64 i] := ((Blk.new w [.int .i64 1, .int .i64 ax, .int .i64 td, .bool by', .int .u64 p, .int .u64 q, .int .i64 i] 49).alloc _).alloc _
  have B2 : Blk (((w.alloc (.cells #[.int .i64 1, .int .i64 ax, .int .i64 td, .bool by', .int .u64 p, .int .u64 q, .int .i64 i] 49)).alloc (.cells #[.int .i64 0, .int .i64 0, .int .i64 0, .bool false, .int .u64 0, .int .u64 0, .int .i64 0] 49)).alloc (.cells #[.int .i64 1, .int .i64 0, .int .i64 0, .bool false, .int .u64 0, .int .u64 0, .int .i64 0] 49)) (w.heap.size + 1) 49 [.int .i64 0, .int .i64 0, .int .i64 0, .bool false, .int .u64 0, .int .u64 0, .int .i64 0] := by
    have := Blk.new (w.alloc (.cells #[.int .i64 1, .int .i64 ax, .int .i64 td, .bool by', .int .u64 p, .int .u64 q, .int .i64 i] 49)) [.int .i64 0, .int .i64 0, .int .i64 0, .bool false, .int .u64 0, .int .u64 0, .int .i64 0] 49
    rw [World.size_alloc] at this
    exact this.alloc _
  have B4 : Blk (((w.alloc (.cells #[.int .i64 1, .int .i64 ax, .int .i64 td, .bool by', .int .u64 p, .int .u64 q, .int .i64 i] 49)).alloc (.cells #[.int .i64 0, .int .i64 0, .int .i64 0, .bool false, .int .u64 0, .int .u64 0, .int .i64 0] 49)).alloc (.cells #[.int .i64 1, .int .i64 0, .int .i64 0, .bool false, .int .u64 0, .int .u64 0, .int .i64 0] 49)) (w.heap.size + 1 + 1) 49 [.int .i64 1, .int .i64 0, .int .i64 0, .bool false, .int .u64 0, .int .u64 0, .int .i64 0] := by
    have := Blk.new ((w.alloc (.cells #[.int .i64 1, .int .i64 ax, .int .i64 td, .bool by', .int .u64 p, .int .u64 q, .int .i64 i] 49)).alloc (.cells #[.int .i64 0, .int .i64 0, .int .i64 0, .bool false, .int .u64 0, .int .u64 0, .int .i64 0] 49)) [.int .i64 1, .int .i64 0, .int .i64 0, .bool false, .int .u64 0, .int .u64 0, .int .i64 0] 49
    rwa [World.size_alloc, World.size_alloc] at this
  have HC : Hid (Chg [] w (((w.alloc (.cells #[.int .i64 1, .int .i64 ax, .int .i64 td, .bool by', .int .u64 p, .int .u64 q, .int .i64 i] 49)).alloc (.cells #[.int .i64 0, .int .i64 0, .int .i64 0, .bool false, .int .u64 0, .int .u64 0, .int .i64 0] 49)).alloc (.cells #[.int .i64 1, .int .i64 0, .int .i64 0, .bool false, .int .u64 0, .int .u64 0, .int .i64 0] 49))) := (((Chg.refl _ _).alloc _).alloc _).alloc _
  have HLO : Hid (w.heap.size ≤ w.heap.size + 1 ∧ w.heap.size ≤ w.heap.size + 1 + 1) := ⟨by omega, by omega⟩
  go_enter Tryz.func161, Tryz.ntmps161
  go_upto_region 6 with (fail)
  have hn2 : w.heap.size + 1 + 1 ≠ w.heap.size + 1 := by omega
  generalize hg4 : w.heap.size + 1 + 1 = g4 at *
  generalize hg2 : w.heap.size + 1 = g2 at *
  generalize hg1 : w.heap.size = g1 at *
  generalize ((w.alloc _).alloc _).alloc _ = W at *
  have HLO2 : Hid (w.heap.size ≤ g2 ∧ w.heap.size ≤ g4) := by rw [hg1]; exact HLO
  clear hg4 hg2 hg1
  have y1 := B1.at (i := 1) rfl
  have y5 := B1.at (i := 5) rfl
  have f1 := B4.free 1
  have u1 := B4.at (i := 1) rfl
  have f5 := B4.free 5
  have u5 := B4.at (i := 5) rfl
  go_region
  go_upto_region 14 with (fail)
  have hcV : Chg [g4] W (((W.setCell ⟨g4, 1, none⟩ (.int .i64 ax)).setCell ⟨g4, 5, none⟩ (.int .u64 q)).drew) := (((Chg.refl [g4] W).setCell ⟨g4, 1, none⟩ (.int .i64 ax) (.inl (by simp))).setCell ⟨g4, 5, none⟩ (.int .u64 q) (.inl (by simp))).drew
  have B4V : Blk (((W.setCell ⟨g4, 1, none⟩ (.int .i64 ax)).setCell ⟨g4, 5, none⟩ (.int .u64 q)).drew) g4 49 [.int .i64 1, .int .i64 ax, .int .i64 0, .bool false, .int .u64 0, .int .u64 q, .int .i64 0] := ((B4.set 1 (.int .i64 ax)).set 5 (.int .u64 q)).drew
  have B2V := B2.chg hcV (by simp; exact fun e => hn2 e.symm)
  have CV : Chg [] w (((W.setCell ⟨g4, 1, none⟩ (.int .i64 ax)).setCell ⟨g4, 5, none⟩ (.int .u64 q)).drew) := HC.out.trans' hcV (fun z hz => .inr (by simp at hz; rw [hz]; exact HLO2.out.2))
  have HCV := Lib.hid CV
  clear B1 B2 B4 hcV CV HC y1 f1 u1 y5 f5 u5
  generalize ((W.setCell ⟨g4, 1, none⟩ (.int .i64 ax)).setCell ⟨g4, 5, none⟩ (.int .u64 q)).drew = V at *
  have x0 := B4V.at (i := 0) rfl
  have x1 := B4V.at (i := 1) rfl
  have x2 := B4V.at (i := 2) rfl
  have x3 := B4V.at (i := 3) rfl
  have x4 := B4V.at (i := 4) rfl
  have x5 := B4V.at (i := 5) rfl
  have x6 := B4V.at (i := 6) rfl
  have z0 := B2V.at (i := 0) rfl
  have f0 := B2V.free 0
  have z1 := B2V.at (i := 1) rfl
  have f1 := B2V.free 1
  have z2 := B2V.at (i := 2) rfl
  have f2 := B2V.free 2
  have z3 := B2V.at (i := 3) rfl
  have f3 := B2V.free 3
  have z4 := B2V.at (i := 4) rfl
  have f4 := B2V.free 4
  have z5 := B2V.at (i := 5) rfl
  have f5 := B2V.free 5
  have z6 := B2V.at (i := 6) rfl
  have f6 := B2V.free 6
  go_wp2_with fail
  exact bodyPost_ret (v := .tuple #[txv (⟨1, ax, 0, false, 0, q, 0⟩ : Txx), .bool true]) (by simp [results, Tryz.results161, go_sem, z0, z1, z2, z3, z4, z5, z6]) rfl ⟨rfl, sto7_chg HCV.out g2 (⟨1, ax, 0, false, 0, q, 0⟩ : Txx) (.inr HLO2.out.1)⟩
set_option maxRecDepth 100000 in
set_option maxHeartbeats 2000000 in
theorem fields2 (t : Txx) (hk : t.kind = 2) (w : World) :
    Calls Tryz.prog 161 #[txv t] w fun e w' => e = .returned (.tuple #[txv (txF t), .bool (txK t)]) ∧ Chg [] w w' := by
  obtain ⟨kd, ax, td, by', p, q, i⟩ := t
  dsimp only at hk
  subst hk
  have HT : Hid (txF ⟨2, ax, td, by', p, q, i⟩ = (⟨2, ax, 0, false, 0, q, 0⟩ : Txx) ∧ txK ⟨2, ax, td, by', p, q, i⟩ = true) := ⟨by simp [txF], by simp [txK]⟩
  have HF := HT.out.1
  have HK := HT.out.2
  rw [HF, HK]
  clear HF HK
  have B1 : Blk (((w.alloc (.cells #[.int .i64 2, .int .i64 ax, .int .i64 td, .bool by', .int .u64 p, .int .u64 q, .int .i64 i] 49)).alloc (.cells #[.int .i64 0, .int .i64 0, .int .i64 0, .bool false, .int .u64 0, .int .u64 0, .int .i64 0] 49)).alloc (.cells #[.int .i64 2, .int .i64 0, .int .i64 0, .bool false, .int .u64 0, .int .u64 0, .int .i64 0] 49)) w.heap.size 49 [.int .i64 2, .int .i64 ax, .int .i64 td, .bool by', .int .u64 p, .int .u64 q, .int .i64 i] := ((Blk.new w [.int .i64 2, .int .i64 ax, .int .i64 td, .bool by', .int .u64 p, .int .u64 q, .int .i64 i] 49).alloc _).alloc _
  have B2 : Blk (((w.alloc (.cells #[.int .i64 2, .int .i64 ax, .int .i64 td, .bool by', .int .u64 p, .int .u64 q, .int .i64 i] 49)).alloc (.cells #[.int .i64 0, .int .i64 0, .int .i64 0, .bool false, .int .u64 0, .int .u64 0, .int .i64 0] 49)).alloc (.cells #[.int .i64 2, .int .i64 0, .int .i64 0, .bool false, .int .u64 0, .int .u64 0, .int .i64 0] 49)) (w.heap.size + 1) 49 [.int .i64 0, .int .i64 0, .int .i64 0, .bool false, .int .u64 0, .int .u64 0, .int .i64 0] := by
    have := Blk.new (w.alloc (.cells #[.int .i64 2, .int .i64 ax, .int .i64 td, .bool by', .int .u64 p, .int .u64 q, .int .i64 i] 49)) [.int .i64 0, .int .i64 0, .int .i64 0, .bool false, .int .u64 0, .int .u64 0, .int .i64 0] 49
    rw [World.size_alloc] at this
    exact this.alloc _
  have B4 : Blk (((w.alloc (.cells #[.int .i64 2, .int .i64 ax, .int .i64 td, .bool by', .int .u64 p, .int .u64 q, .int .i64 i] 49)).alloc (.cells #[.int .i64 0, .int .i64 0, .int .i64 0, .bool false, .int .u64 0, .int .u64 0, .int .i64 0] 49)).alloc (.cells #[.int .i64 2, .int .i64 0, .int .i64 0, .bool false, .int .u64 0, .int .u64 0, .int .i64 0] 49)) (w.heap.size + 1 + 1) 49 [.int .i64 2, .int .i64 0, .int .i64 0, .bool false, .int .u64 0, .int .u64 0, .int .i64 0] := by
    have := Blk.new ((w.alloc (.cells #[.int .i64 2, .int .i64 ax, .int .i64 td, .bool by', .int .u64 p, .int .u64 q, .int .i64 i] 49)).alloc (.cells #[.int .i64 0, .int .i64 0, .int .i64 0, .bool false, .int .u64 0, .int .u64 0, .int .i64 0] 49)) [.int .i64 2, .int .i64 0, .int .i64 0, .bool false, .int .u64 0, .int .u64 0, .int .i64 0] 49
    rwa [World.size_alloc, World.size_alloc] at this
  have HC : Hid (Chg [] w (((w.alloc (.cells #[.int .i64 2, .int .i64 ax, .int .i64 td, .bool by', .int .u64 p, .int .u64 q, .int .i64 i] 49)).alloc (.cells #[.int .i64 0, .int .i64 0, .int .i64 0, .bool false, .int .u64 0, .int .u64 0, .int .i64 0] 49)).alloc (.cells #[.int .i64 2, .int .i64 0, .int .i64 0, .bool false, .int .u64 0, .int .u64 0, .int .i64 0] 49))) := (((Chg.refl _ _).alloc _).alloc _).alloc _
  have HLO : Hid (w.heap.size ≤ w.heap.size + 1 ∧ w.heap.size ≤ w.heap.size + 1 + 1) := ⟨by omega, by omega⟩
  go_enter Tryz.func161, Tryz.ntmps161
  go_upto_region 6 with (fail)
  have hn2 : w.heap.size + 1 + 1 ≠ w.heap.size + 1 := by omega
  generalize hg4 : w.heap.size + 1 + 1 = g4 at *
  generalize hg2 : w.heap.size + 1 = g2 at *
  generalize hg1 : w.heap.size = g1 at *
  generalize ((w.alloc _).alloc _).alloc _ = W at *
  have HLO2 : Hid (w.heap.size ≤ g2 ∧ w.heap.size ≤ g4) := by rw [hg1]; exact HLO
  clear hg4 hg2 hg1
  have y1 := B1.at (i := 1) rfl
  have y5 := B1.at (i := 5) rfl
  have f1 := B4.free 1
  have u1 := B4.at (i := 1) rfl
  have f5 := B4.free 5
  have u5 := B4.at (i := 5) rfl
  go_region
  go_upto_region 14 with (fail)
  have hcV : Chg [g4] W (((W.setCell ⟨g4, 1, none⟩ (.int .i64 ax)).setCell ⟨g4, 5, none⟩ (.int .u64 q)).drew) := (((Chg.refl [g4] W).setCell ⟨g4, 1, none⟩ (.int .i64 ax) (.inl (by simp))).setCell ⟨g4, 5, none⟩ (.int .u64 q) (.inl (by simp))).drew
  have B4V : Blk (((W.setCell ⟨g4, 1, none⟩ (.int .i64 ax)).setCell ⟨g4, 5, none⟩ (.int .u64 q)).drew) g4 49 [.int .i64 2, .int .i64 ax, .int .i64 0, .bool false, .int .u64 0, .int .u64 q, .int .i64 0] := ((B4.set 1 (.int .i64 ax)).set 5 (.int .u64 q)).drew
  have B2V := B2.chg hcV (by simp; exact fun e => hn2 e.symm)
  have CV : Chg [] w (((W.setCell ⟨g4, 1, none⟩ (.int .i64 ax)).setCell ⟨g4, 5, none⟩ (.int .u64 q)).drew) := HC.out.trans' hcV (fun z hz => .inr (by simp at hz; rw [hz]; exact HLO2.out.2))
  have HCV := Lib.hid CV
  clear B1 B2 B4 hcV CV HC y1 f1 u1 y5 f5 u5
  generalize ((W.setCell ⟨g4, 1, none⟩ (.int .i64 ax)).setCell ⟨g4, 5, none⟩ (.int .u64 q)).drew = V at *
  have x0 := B4V.at (i := 0) rfl
  have x1 := B4V.at (i := 1) rfl
  have x2 := B4V.at (i := 2) rfl
  have x3 := B4V.at (i := 3) rfl
  have x4 := B4V.at (i := 4) rfl
  have x5 := B4V.at (i := 5) rfl
  have x6 := B4V.at (i := 6) rfl
  have z0 := B2V.at (i := 0) rfl
  have f0 := B2V.free 0
  have z1 := B2V.at (i := 1) rfl
  have f1 := B2V.free 1
  have z2 := B2V.at (i := 2) rfl
  have f2 := B2V.free 2
  have z3 := B2V.at (i := 3) rfl
  have f3 := B2V.free 3
  have z4 := B2V.at (i := 4) rfl
  have f4 := B2V.free 4
  have z5 := B2V.at (i := 5) rfl
  have f5 := B2V.free 5
  have z6 := B2V.at (i := 6) rfl
  have f6 := B2V.free 6
  go_wp2_with fail
  exact bodyPost_ret (v := .tuple #[txv (⟨2, ax, 0, false, 0, q, 0⟩ : Txx), .bool true]) (by simp [results, Tryz.results161, go_sem, z0, z1, z2, z3, z4, z5, z6]) rfl ⟨rfl, sto7_chg HCV.out g2 (⟨2, ax, 0, false, 0, q, 0⟩ : Txx) (.inr HLO2.out.1)⟩
set_option maxRecDepth 100000 in
set_option maxHeartbeats 2000000 in
theorem fields3 (t : Txx) (hk : t.kind = 3) (w : World) :
    Calls Tryz.prog 161 #[txv t] w fun e w' => e = .returned (.tuple #[txv (txF t), .bool (txK t)]) ∧ Chg [] w w' := by
  obtain ⟨kd, ax, td, by', p, q, i⟩ := t
  dsimp only at hk
  subst hk
  have HT : Hid (txF ⟨3, ax, td, by', p, q, i⟩ = (⟨3, ax, td, false, 0, q, 0⟩ : Txx) ∧ txK ⟨3, ax, td, by', p, q, i⟩ = true) := ⟨by simp [txF], by simp [txK]⟩
  have HF := HT.out.1
  have HK := HT.out.2
  rw [HF, HK]
  clear HF HK
  have B1 : Blk (((w.alloc (.cells #[.int .i64 3, .int .i64 ax, .int .i64 td, .bool by', .int .u64 p, .int .u64 q, .int .i64 i] 49)).alloc (.cells #[.int .i64 0, .int .i64 0, .int .i64 0, .bool false, .int .u64 0, .int .u64 0, .int .i64 0] 49)).alloc (.cells #[.int .i64 3, .int .i64 0, .int .i64 0, .bool false, .int .u64 0, .int .u64 0, .int .i64 0] 49)) w.heap.size 49 [.int .i64 3, .int .i64 ax, .int .i64 td, .bool by', .int .u64 p, .int .u64 q, .int .i64 i] := ((Blk.new w [.int .i64 3, .int .i64 ax, .int .i64 td, .bool by', .int .u64 p, .int .u64 q, .int .i64 i] 49).alloc _).alloc _
  have B2 : Blk (((w.alloc (.cells #[.int .i64 3, .int .i64 ax, .int .i64 td, .bool by', .int .u64 p, .int .u64 q, .int .i64 i] 49)).alloc (.cells #[.int .i64 0, .int .i64 0, .int .i64 0, .bool false, .int .u64 0, .int .u64 0, .int .i64 0] 49)).alloc (.cells #[.int .i64 3, .int .i64 0, .int .i64 0, .bool false, .int .u64 0, .int .u64 0, .int .i64 0] 49)) (w.heap.size + 1) 49 [.int .i64 0, .int .i64 0, .int .i64 0, .bool false, .int .u64 0, .int .u64 0, .int .i64 0] := by
    have := Blk.new (w.alloc (.cells #[.int .i64 3, .int .i64 ax, .int .i64 td, .bool by', .int .u64 p, .int .u64 q, .int .i64 i] 49)) [.int .i64 0, .int .i64 0, .int .i64 0, .bool false, .int .u64 0, .int .u64 0, .int .i64 0] 49
    rw [World.size_alloc] at this
    exact this.alloc _
  have B4 : Blk (((w.alloc (.cells #[.int .i64 3, .int .i64 ax, .int .i64 td, .bool by', .int .u64 p, .int .u64 q, .int .i64 i] 49)).alloc (.cells #[.int .i64 0, .int .i64 0, .int .i64 0, .bool false, .int .u64 0, .int .u64 0, .int .i64 0] 49)).alloc (.cells #[.int .i64 3, .int .i64 0, .int .i64 0, .bool false, .int .u64 0, .int .u64 0, .int .i64 0] 49)) (w.heap.size + 1 + 1) 49 [.int .i64 3, .int .i64 0, .int .i64 0, .bool false, .int .u64 0, .int .u64 0, .int .i64 0] := by
    have := Blk.new ((w.alloc (.cells #[.int .i64 3, .int .i64 ax, .int .i64 td, .bool by', .int .u64 p, .int .u64 q, .int .i64 i] 49)).alloc (.cells #[.int .i64 0, .int .i64 0, .int .i64 0, .bool false, .int .u64 0, .int .u64 0, .int .i64 0] 49)) [.int .i64 3, .int .i64 0, .int .i64 0, .bool false, .int .u64 0, .int .u64 0, .int .i64 0] 49
    rwa [World.size_alloc, World.size_alloc] at this
  have HC : Hid (Chg [] w (((w.alloc (.cells #[.int .i64 3, .int .i64 ax, .int .i64 td, .bool by', .int .u64 p, .int .u64 q, .int .i64 i] 49)).alloc (.cells #[.int .i64 0, .int .i64 0, .int .i64 0, .bool false, .int .u64 0, .int .u64 0, .int .i64 0] 49)).alloc (.cells #[.int .i64 3, .int .i64 0, .int .i64 0, .bool false, .int .u64 0, .int .u64 0, .int .i64 0] 49))) := (((Chg.refl _ _).alloc _).alloc _).alloc _
  have HLO : Hid (w.heap.size ≤ w.heap.size + 1 ∧ w.heap.size ≤ w.heap.size + 1 + 1) := ⟨by omega, by omega⟩
  go_enter Tryz.func161, Tryz.ntmps161
  go_upto_region 8 with (fail)
  have hn2 : w.heap.size + 1 + 1 ≠ w.heap.size + 1 := by omega
  generalize hg4 : w.heap.size + 1 + 1 = g4 at *
  generalize hg2 : w.heap.size + 1 = g2 at *
  generalize hg1 : w.heap.size = g1 at *
  generalize ((w.alloc _).alloc _).alloc _ = W at *
  have HLO2 : Hid (w.heap.size ≤ g2 ∧ w.heap.size ≤ g4) := by rw [hg1]; exact HLO
  clear hg4 hg2 hg1
  have y2 := B1.at (i := 2) rfl
  have y1 := B1.at (i := 1) rfl
  have y5 := B1.at (i := 5) rfl
  have f2 := B4.free 2
  have u2 := B4.at (i := 2) rfl
  have f1 := B4.free 1
  have u1 := B4.at (i := 1) rfl
  have f5 := B4.free 5
  have u5 := B4.at (i := 5) rfl
  go_region
  go_upto_region 14 with (fail)
  have hcV : Chg [g4] W ((((W.setCell ⟨g4, 2, none⟩ (.int .i64 td)).setCell ⟨g4, 1, none⟩ (.int .i64 ax)).setCell ⟨g4, 5, none⟩ (.int .u64 q)).drew) := ((((Chg.refl [g4] W).setCell ⟨g4, 2, none⟩ (.int .i64 td) (.inl (by simp))).setCell ⟨g4, 1, none⟩ (.int .i64 ax) (.inl (by simp))).setCell ⟨g4, 5, none⟩ (.int .u64 q) (.inl (by simp))).drew
  have B4V : Blk ((((W.setCell ⟨g4, 2, none⟩ (.int .i64 td)).setCell ⟨g4, 1, none⟩ (.int .i64 ax)).setCell ⟨g4, 5, none⟩ (.int .u64 q)).drew) g4 49 [.int .i64 3, .int .i64 ax, .int .i64 td, .bool false, .int .u64 0, .int .u64 q, .int .i64 0] := (((B4.set 2 (.int .i64 td)).set 1 (.int .i64 ax)).set 5 (.int .u64 q)).drew
  have B2V := B2.chg hcV (by simp; exact fun e => hn2 e.symm)
  have CV : Chg [] w ((((W.setCell ⟨g4, 2, none⟩ (.int .i64 td)).setCell ⟨g4, 1, none⟩ (.int .i64 ax)).setCell ⟨g4, 5, none⟩ (.int .u64 q)).drew) := HC.out.trans' hcV (fun z hz => .inr (by simp at hz; rw [hz]; exact HLO2.out.2))
  have HCV := Lib.hid CV
  clear B1 B2 B4 hcV CV HC y2 f2 u2 y1 f1 u1 y5 f5 u5
  generalize (((W.setCell ⟨g4, 2, none⟩ (.int .i64 td)).setCell ⟨g4, 1, none⟩ (.int .i64 ax)).setCell ⟨g4, 5, none⟩ (.int .u64 q)).drew = V at *
  have x0 := B4V.at (i := 0) rfl
  have x1 := B4V.at (i := 1) rfl
  have x2 := B4V.at (i := 2) rfl
  have x3 := B4V.at (i := 3) rfl
  have x4 := B4V.at (i := 4) rfl
  have x5 := B4V.at (i := 5) rfl
  have x6 := B4V.at (i := 6) rfl
  have z0 := B2V.at (i := 0) rfl
  have f0 := B2V.free 0
  have z1 := B2V.at (i := 1) rfl
  have f1 := B2V.free 1
  have z2 := B2V.at (i := 2) rfl
  have f2 := B2V.free 2
  have z3 := B2V.at (i := 3) rfl
  have f3 := B2V.free 3
  have z4 := B2V.at (i := 4) rfl
  have f4 := B2V.free 4
  have z5 := B2V.at (i := 5) rfl
  have f5 := B2V.free 5
  have z6 := B2V.at (i := 6) rfl
  have f6 := B2V.free 6
  go_wp2_with fail
  exact bodyPost_ret (v := .tuple #[txv (⟨3, ax, td, false, 0, q, 0⟩ : Txx), .bool true]) (by simp [results, Tryz.results161, go_sem, z0, z1, z2, z3, z4, z5, z6]) rfl ⟨rfl, sto7_chg HCV.out g2 (⟨3, ax, td, false, 0, q, 0⟩ : Txx) (.inr HLO2.out.1)⟩
set_option maxRecDepth 100000 in
set_option maxHeartbeats 2000000 in
theorem fields4 (t : Txx) (hk : t.kind = 4) (w : World) :
    Calls Tryz.prog 161 #[txv t] w fun e w' => e = .returned (.tuple #[txv (txF t), .bool (txK t)]) ∧ Chg [] w w' := by
  obtain ⟨kd, ax, td, by', p, q, i⟩ := t
  dsimp only at hk
  subst hk
  have HT : Hid (txF ⟨4, ax, td, by', p, q, i⟩ = (⟨4, 0, 0, by', p, q, 0⟩ : Txx) ∧ txK ⟨4, ax, td, by', p, q, i⟩ = true) := ⟨by simp [txF], by simp [txK]⟩
  have HF := HT.out.1
  have HK := HT.out.2
  rw [HF, HK]
  clear HF HK
  have B1 : Blk (((w.alloc (.cells #[.int .i64 4, .int .i64 ax, .int .i64 td, .bool by', .int .u64 p, .int .u64 q, .int .i64 i] 49)).alloc (.cells #[.int .i64 0, .int .i64 0, .int .i64 0, .bool false, .int .u64 0, .int .u64 0, .int .i64 0] 49)).alloc (.cells #[.int .i64 4, .int .i64 0, .int .i64 0, .bool false, .int .u64 0, .int .u64 0, .int .i64 0] 49)) w.heap.size 49 [.int .i64 4, .int .i64 ax, .int .i64 td, .bool by', .int .u64 p, .int .u64 q, .int .i64 i] := ((Blk.new w [.int .i64 4, .int .i64 ax, .int .i64 td, .bool by', .int .u64 p, .int .u64 q, .int .i64 i] 49).alloc _).alloc _
  have B2 : Blk (((w.alloc (.cells #[.int .i64 4, .int .i64 ax, .int .i64 td, .bool by', .int .u64 p, .int .u64 q, .int .i64 i] 49)).alloc (.cells #[.int .i64 0, .int .i64 0, .int .i64 0, .bool false, .int .u64 0, .int .u64 0, .int .i64 0] 49)).alloc (.cells #[.int .i64 4, .int .i64 0, .int .i64 0, .bool false, .int .u64 0, .int .u64 0, .int .i64 0] 49)) (w.heap.size + 1) 49 [.int .i64 0, .int .i64 0, .int .i64 0, .bool false, .int .u64 0, .int .u64 0, .int .i64 0] := by
    have := Blk.new (w.alloc (.cells #[.int .i64 4, .int .i64 ax, .int .i64 td, .bool by', .int .u64 p, .int .u64 q, .int .i64 i] 49)) [.int .i64 0, .int .i64 0, .int .i64 0, .bool false, .int .u64 0, .int .u64 0, .int .i64 0] 49
    rw [World.size_alloc] at this
    exact this.alloc _
  have B4 : Blk (((w.alloc (.cells #[.int .i64 4, .int .i64 ax, .int .i64 td, .bool by', .int .u64 p, .int .u64 q, .int .i64 i] 49)).alloc (.cells #[.int .i64 0, .int .i64 0, .int .i64 0, .bool false, .int .u64 0, .int .u64 0, .int .i64 0] 49)).alloc (.cells #[.int .i64 4, .int .i64 0, .int .i64 0, .bool false, .int .u64 0, .int .u64 0, .int .i64 0] 49)) (w.heap.size + 1 + 1) 49 [.int .i64 4, .int .i64 0, .int .i64 0, .bool false, .int .u64 0, .int .u64 0, .int .i64 0] := by
    have := Blk.new ((w.alloc (.cells #[.int .i64 4, .int .i64 ax, .int .i64 td, .bool by', .int .u64 p, .int .u64 q, .int .i64 i] 49)).alloc (.cells #[.int .i64 0, .int .i64 0, .int .i64 0, .bool false, .int .u64 0, .int .u64 0, .int .i64 0] 49)) [.int .i64 4, .int .i64 0, .int .i64 0, .bool false, .int .u64 0, .int .u64 0, .int .i64 0] 49
    rwa [World.size_alloc, World.size_alloc] at this
  have HC : Hid (Chg [] w (((w.alloc (.cells #[.int .i64 4, .int .i64 ax, .int .i64 td, .bool by', .int .u64 p, .int .u64 q, .int .i64 i] 49)).alloc (.cells #[.int .i64 0, .int .i64 0, .int .i64 0, .bool false, .int .u64 0, .int .u64 0, .int .i64 0] 49)).alloc (.cells #[.int .i64 4, .int .i64 0, .int .i64 0, .bool false, .int .u64 0, .int .u64 0, .int .i64 0] 49))) := (((Chg.refl _ _).alloc _).alloc _).alloc _
  have HLO : Hid (w.heap.size ≤ w.heap.size + 1 ∧ w.heap.size ≤ w.heap.size + 1 + 1) := ⟨by omega, by omega⟩
  go_enter Tryz.func161, Tryz.ntmps161
  go_upto_region 11 with (fail)
  have hn2 : w.heap.size + 1 + 1 ≠ w.heap.size + 1 := by omega
  generalize hg4 : w.heap.size + 1 + 1 = g4 at *
  generalize hg2 : w.heap.size + 1 = g2 at *
  generalize hg1 : w.heap.size = g1 at *
  generalize ((w.alloc _).alloc _).alloc _ = W at *
  have HLO2 : Hid (w.heap.size ≤ g2 ∧ w.heap.size ≤ g4) := by rw [hg1]; exact HLO
  clear hg4 hg2 hg1
  have y3 := B1.at (i := 3) rfl
  have y4 := B1.at (i := 4) rfl
  have y5 := B1.at (i := 5) rfl
  have f3 := B4.free 3
  have u3 := B4.at (i := 3) rfl
  have f4 := B4.free 4
  have u4 := B4.at (i := 4) rfl
  have f5 := B4.free 5
  have u5 := B4.at (i := 5) rfl
  go_region
  go_upto_region 14 with (fail)
  have hcV : Chg [g4] W ((((W.setCell ⟨g4, 3, none⟩ (.bool by')).setCell ⟨g4, 4, none⟩ (.int .u64 p)).setCell ⟨g4, 5, none⟩ (.int .u64 q)).drew) := ((((Chg.refl [g4] W).setCell ⟨g4, 3, none⟩ (.bool by') (.inl (by simp))).setCell ⟨g4, 4, none⟩ (.int .u64 p) (.inl (by simp))).setCell ⟨g4, 5, none⟩ (.int .u64 q) (.inl (by simp))).drew
  have B4V : Blk ((((W.setCell ⟨g4, 3, none⟩ (.bool by')).setCell ⟨g4, 4, none⟩ (.int .u64 p)).setCell ⟨g4, 5, none⟩ (.int .u64 q)).drew) g4 49 [.int .i64 4, .int .i64 0, .int .i64 0, .bool by', .int .u64 p, .int .u64 q, .int .i64 0] := (((B4.set 3 (.bool by')).set 4 (.int .u64 p)).set 5 (.int .u64 q)).drew
  have B2V := B2.chg hcV (by simp; exact fun e => hn2 e.symm)
  have CV : Chg [] w ((((W.setCell ⟨g4, 3, none⟩ (.bool by')).setCell ⟨g4, 4, none⟩ (.int .u64 p)).setCell ⟨g4, 5, none⟩ (.int .u64 q)).drew) := HC.out.trans' hcV (fun z hz => .inr (by simp at hz; rw [hz]; exact HLO2.out.2))
  have HCV := Lib.hid CV
  clear B1 B2 B4 hcV CV HC y3 f3 u3 y4 f4 u4 y5 f5 u5
  generalize (((W.setCell ⟨g4, 3, none⟩ (.bool by')).setCell ⟨g4, 4, none⟩ (.int .u64 p)).setCell ⟨g4, 5, none⟩ (.int .u64 q)).drew = V at *
  have x0 := B4V.at (i := 0) rfl
  have x1 := B4V.at (i := 1) rfl
  have x2 := B4V.at (i := 2) rfl
  have x3 := B4V.at (i := 3) rfl
  have x4 := B4V.at (i := 4) rfl
  have x5 := B4V.at (i := 5) rfl
  have x6 := B4V.at (i := 6) rfl
  have z0 := B2V.at (i := 0) rfl
  have f0 := B2V.free 0
  have z1 := B2V.at (i := 1) rfl
  have f1 := B2V.free 1
  have z2 := B2V.at (i := 2) rfl
  have f2 := B2V.free 2
  have z3 := B2V.at (i := 3) rfl
  have f3 := B2V.free 3
  have z4 := B2V.at (i := 4) rfl
  have f4 := B2V.free 4
  have z5 := B2V.at (i := 5) rfl
  have f5 := B2V.free 5
  have z6 := B2V.at (i := 6) rfl
  have f6 := B2V.free 6
  go_wp2_with fail
  exact bodyPost_ret (v := .tuple #[txv (⟨4, 0, 0, by', p, q, 0⟩ : Txx), .bool true]) (by simp [results, Tryz.results161, go_sem, z0, z1, z2, z3, z4, z5, z6]) rfl ⟨rfl, sto7_chg HCV.out g2 (⟨4, 0, 0, by', p, q, 0⟩ : Txx) (.inr HLO2.out.1)⟩
set_option maxRecDepth 100000 in
set_option maxHeartbeats 2000000 in
theorem fields5 (t : Txx) (hk : t.kind = 5) (w : World) :
    Calls Tryz.prog 161 #[txv t] w fun e w' => e = .returned (.tuple #[txv (txF t), .bool (txK t)]) ∧ Chg [] w w' := by
  obtain ⟨kd, ax, td, by', p, q, i⟩ := t
  dsimp only at hk
  subst hk
  have HT : Hid (txF ⟨5, ax, td, by', p, q, i⟩ = (⟨5, 0, 0, by', p, q, 0⟩ : Txx) ∧ txK ⟨5, ax, td, by', p, q, i⟩ = true) := ⟨by simp [txF], by simp [txK]⟩
  have HF := HT.out.1
  have HK := HT.out.2
  rw [HF, HK]
  clear HF HK
  have B1 : Blk (((w.alloc (.cells #[.int .i64 5, .int .i64 ax, .int .i64 td, .bool by', .int .u64 p, .int .u64 q, .int .i64 i] 49)).alloc (.cells #[.int .i64 0, .int .i64 0, .int .i64 0, .bool false, .int .u64 0, .int .u64 0, .int .i64 0] 49)).alloc (.cells #[.int .i64 5, .int .i64 0, .int .i64 0, .bool false, .int .u64 0, .int .u64 0, .int .i64 0] 49)) w.heap.size 49 [.int .i64 5, .int .i64 ax, .int .i64 td, .bool by', .int .u64 p, .int .u64 q, .int .i64 i] := ((Blk.new w [.int .i64 5, .int .i64 ax, .int .i64 td, .bool by', .int .u64 p, .int .u64 q, .int .i64 i] 49).alloc _).alloc _
  have B2 : Blk (((w.alloc (.cells #[.int .i64 5, .int .i64 ax, .int .i64 td, .bool by', .int .u64 p, .int .u64 q, .int .i64 i] 49)).alloc (.cells #[.int .i64 0, .int .i64 0, .int .i64 0, .bool false, .int .u64 0, .int .u64 0, .int .i64 0] 49)).alloc (.cells #[.int .i64 5, .int .i64 0, .int .i64 0, .bool false, .int .u64 0, .int .u64 0, .int .i64 0] 49)) (w.heap.size + 1) 49 [.int .i64 0, .int .i64 0, .int .i64 0, .bool false, .int .u64 0, .int .u64 0, .int .i64 0] := by
    have := Blk.new (w.alloc (.cells #[.int .i64 5, .int .i64 ax, .int .i64 td, .bool by', .int .u64 p, .int .u64 q, .int .i64 i] 49)) [.int .i64 0, .int .i64 0, .int .i64 0, .bool false, .int .u64 0, .int .u64 0, .int .i64 0] 49
    rw [World.size_alloc] at this
    exact this.alloc _
  have B4 : Blk (((w.alloc (.cells #[.int .i64 5, .int .i64 ax, .int .i64 td, .bool by', .int .u64 p, .int .u64 q, .int .i64 i] 49)).alloc (.cells #[.int .i64 0, .int .i64 0, .int .i64 0, .bool false, .int .u64 0, .int .u64 0, .int .i64 0] 49)).alloc (.cells #[.int .i64 5, .int .i64 0, .int .i64 0, .bool false, .int .u64 0, .int .u64 0, .int .i64 0] 49)) (w.heap.size + 1 + 1) 49 [.int .i64 5, .int .i64 0, .int .i64 0, .bool false, .int .u64 0, .int .u64 0, .int .i64 0] := by
    have := Blk.new ((w.alloc (.cells #[.int .i64 5, .int .i64 ax, .int .i64 td, .bool by', .int .u64 p, .int .u64 q, .int .i64 i] 49)).alloc (.cells #[.int .i64 0, .int .i64 0, .int .i64 0, .bool false, .int .u64 0, .int .u64 0, .int .i64 0] 49)) [.int .i64 5, .int .i64 0, .int .i64 0, .bool false, .int .u64 0, .int .u64 0, .int .i64 0] 49
    rwa [World.size_alloc, World.size_alloc] at this
  have HC : Hid (Chg [] w (((w.alloc (.cells #[.int .i64 5, .int .i64 ax, .int .i64 td, .bool by', .int .u64 p, .int .u64 q, .int .i64 i] 49)).alloc (.cells #[.int .i64 0, .int .i64 0, .int .i64 0, .bool false, .int .u64 0, .int .u64 0, .int .i64 0] 49)).alloc (.cells #[.int .i64 5, .int .i64 0, .int .i64 0, .bool false, .int .u64 0, .int .u64 0, .int .i64 0] 49))) := (((Chg.refl _ _).alloc _).alloc _).alloc _
  have HLO : Hid (w.heap.size ≤ w.heap.size + 1 ∧ w.heap.size ≤ w.heap.size + 1 + 1) := ⟨by omega, by omega⟩
  go_enter Tryz.func161, Tryz.ntmps161
  go_upto_region 11 with (fail)
  have hn2 : w.heap.size + 1 + 1 ≠ w.heap.size + 1 := by omega
  generalize hg4 : w.heap.size + 1 + 1 = g4 at *
  generalize hg2 : w.heap.size + 1 = g2 at *
  generalize hg1 : w.heap.size = g1 at *
  generalize ((w.alloc _).alloc _).alloc _ = W at *
  have HLO2 : Hid (w.heap.size ≤ g2 ∧ w.heap.size ≤ g4) := by rw [hg1]; exact HLO
  clear hg4 hg2 hg1
  have y3 := B1.at (i := 3) rfl
  have y4 := B1.at (i := 4) rfl
  have y5 := B1.at (i := 5) rfl
  have f3 := B4.free 3
  have u3 := B4.at (i := 3) rfl
  have f4 := B4.free 4
  have u4 := B4.at (i := 4) rfl
  have f5 := B4.free 5
  have u5 := B4.at (i := 5) rfl
  go_region
  go_upto_region 14 with (fail)
  have hcV : Chg [g4] W ((((W.setCell ⟨g4, 3, none⟩ (.bool by')).setCell ⟨g4, 4, none⟩ (.int .u64 p)).setCell ⟨g4, 5, none⟩ (.int .u64 q)).drew) := ((((Chg.refl [g4] W).setCell ⟨g4, 3, none⟩ (.bool by') (.inl (by simp))).setCell ⟨g4, 4, none⟩ (.int .u64 p) (.inl (by simp))).setCell ⟨g4, 5, none⟩ (.int .u64 q) (.inl (by simp))).drew
  have B4V : Blk ((((W.setCell ⟨g4, 3, none⟩ (.bool by')).setCell ⟨g4, 4, none⟩ (.int .u64 p)).setCell ⟨g4, 5, none⟩ (.int .u64 q)).drew) g4 49 [.int .i64 5, .int .i64 0, .int .i64 0, .bool by', .int .u64 p, .int .u64 q, .int .i64 0] := (((B4.set 3 (.bool by')).set 4 (.int .u64 p)).set 5 (.int .u64 q)).drew
  have B2V := B2.chg hcV (by simp; exact fun e => hn2 e.symm)
  have CV : Chg [] w ((((W.setCell ⟨g4, 3, none⟩ (.bool by')).setCell ⟨g4, 4, none⟩ (.int .u64 p)).setCell ⟨g4, 5, none⟩ (.int .u64 q)).drew) := HC.out.trans' hcV (fun z hz => .inr (by simp at hz; rw [hz]; exact HLO2.out.2))
  have HCV := Lib.hid CV
  clear B1 B2 B4 hcV CV HC y3 f3 u3 y4 f4 u4 y5 f5 u5
  generalize (((W.setCell ⟨g4, 3, none⟩ (.bool by')).setCell ⟨g4, 4, none⟩ (.int .u64 p)).setCell ⟨g4, 5, none⟩ (.int .u64 q)).drew = V at *
  have x0 := B4V.at (i := 0) rfl
  have x1 := B4V.at (i := 1) rfl
  have x2 := B4V.at (i := 2) rfl
  have x3 := B4V.at (i := 3) rfl
  have x4 := B4V.at (i := 4) rfl
  have x5 := B4V.at (i := 5) rfl
  have x6 := B4V.at (i := 6) rfl
  have z0 := B2V.at (i := 0) rfl
  have f0 := B2V.free 0
  have z1 := B2V.at (i := 1) rfl
  have f1 := B2V.free 1
  have z2 := B2V.at (i := 2) rfl
  have f2 := B2V.free 2
  have z3 := B2V.at (i := 3) rfl
  have f3 := B2V.free 3
  have z4 := B2V.at (i := 4) rfl
  have f4 := B2V.free 4
  have z5 := B2V.at (i := 5) rfl
  have f5 := B2V.free 5
  have z6 := B2V.at (i := 6) rfl
  have f6 := B2V.free 6
  go_wp2_with fail
  exact bodyPost_ret (v := .tuple #[txv (⟨5, 0, 0, by', p, q, 0⟩ : Txx), .bool true]) (by simp [results, Tryz.results161, go_sem, z0, z1, z2, z3, z4, z5, z6]) rfl ⟨rfl, sto7_chg HCV.out g2 (⟨5, 0, 0, by', p, q, 0⟩ : Txx) (.inr HLO2.out.1)⟩
set_option maxRecDepth 100000 in
set_option maxHeartbeats 2000000 in
theorem fields6 (t : Txx) (hk : t.kind = 6) (w : World) :
    Calls Tryz.prog 161 #[txv t] w fun e w' => e = .returned (.tuple #[txv (txF t), .bool (txK t)]) ∧ Chg [] w w' := by
  obtain ⟨kd, ax, td, by', p, q, i⟩ := t
  dsimp only at hk
  subst hk
  have HT : Hid (txF ⟨6, ax, td, by', p, q, i⟩ = (⟨6, 0, 0, false, 0, 0, i⟩ : Txx) ∧ txK ⟨6, ax, td, by', p, q, i⟩ = true) := ⟨by simp [txF], by simp [txK]⟩
  have HF := HT.out.1
  have HK := HT.out.2
  rw [HF, HK]
  clear HF HK
  have B1 : Blk (((w.alloc (.cells #[.int .i64 6, .int .i64 ax, .int .i64 td, .bool by', .int .u64 p, .int .u64 q, .int .i64 i] 49)).alloc (.cells #[.int .i64 0, .int .i64 0, .int .i64 0, .bool false, .int .u64 0, .int .u64 0, .int .i64 0] 49)).alloc (.cells #[.int .i64 6, .int .i64 0, .int .i64 0, .bool false, .int .u64 0, .int .u64 0, .int .i64 0] 49)) w.heap.size 49 [.int .i64 6, .int .i64 ax, .int .i64 td, .bool by', .int .u64 p, .int .u64 q, .int .i64 i] := ((Blk.new w [.int .i64 6, .int .i64 ax, .int .i64 td, .bool by', .int .u64 p, .int .u64 q, .int .i64 i] 49).alloc _).alloc _
  have B2 : Blk (((w.alloc (.cells #[.int .i64 6, .int .i64 ax, .int .i64 td, .bool by', .int .u64 p, .int .u64 q, .int .i64 i] 49)).alloc (.cells #[.int .i64 0, .int .i64 0, .int .i64 0, .bool false, .int .u64 0, .int .u64 0, .int .i64 0] 49)).alloc (.cells #[.int .i64 6, .int .i64 0, .int .i64 0, .bool false, .int .u64 0, .int .u64 0, .int .i64 0] 49)) (w.heap.size + 1) 49 [.int .i64 0, .int .i64 0, .int .i64 0, .bool false, .int .u64 0, .int .u64 0, .int .i64 0] := by
    have := Blk.new (w.alloc (.cells #[.int .i64 6, .int .i64 ax, .int .i64 td, .bool by', .int .u64 p, .int .u64 q, .int .i64 i] 49)) [.int .i64 0, .int .i64 0, .int .i64 0, .bool false, .int .u64 0, .int .u64 0, .int .i64 0] 49
    rw [World.size_alloc] at this
    exact this.alloc _
  have B4 : Blk (((w.alloc (.cells #[.int .i64 6, .int .i64 ax, .int .i64 td, .bool by', .int .u64 p, .int .u64 q, .int .i64 i] 49)).alloc (.cells #[.int .i64 0, .int .i64 0, .int .i64 0, .bool false, .int .u64 0, .int .u64 0, .int .i64 0] 49)).alloc (.cells #[.int .i64 6, .int .i64 0, .int .i64 0, .bool false, .int .u64 0, .int .u64 0, .int .i64 0] 49)) (w.heap.size + 1 + 1) 49 [.int .i64 6, .int .i64 0, .int .i64 0, .bool false, .int .u64 0, .int .u64 0, .int .i64 0] := by
    have := Blk.new ((w.alloc (.cells #[.int .i64 6, .int .i64 ax, .int .i64 td, .bool by', .int .u64 p, .int .u64 q, .int .i64 i] 49)).alloc (.cells #[.int .i64 0, .int .i64 0, .int .i64 0, .bool false, .int .u64 0, .int .u64 0, .int .i64 0] 49)) [.int .i64 6, .int .i64 0, .int .i64 0, .bool false, .int .u64 0, .int .u64 0, .int .i64 0] 49
    rwa [World.size_alloc, World.size_alloc] at this
  have HC : Hid (Chg [] w (((w.alloc (.cells #[.int .i64 6, .int .i64 ax, .int .i64 td, .bool by', .int .u64 p, .int .u64 q, .int .i64 i] 49)).alloc (.cells #[.int .i64 0, .int .i64 0, .int .i64 0, .bool false, .int .u64 0, .int .u64 0, .int .i64 0] 49)).alloc (.cells #[.int .i64 6, .int .i64 0, .int .i64 0, .bool false, .int .u64 0, .int .u64 0, .int .i64 0] 49))) := (((Chg.refl _ _).alloc _).alloc _).alloc _
  have HLO : Hid (w.heap.size ≤ w.heap.size + 1 ∧ w.heap.size ≤ w.heap.size + 1 + 1) := ⟨by omega, by omega⟩
  go_enter Tryz.func161, Tryz.ntmps161
  go_upto_region 13 with (fail)
  have hn2 : w.heap.size + 1 + 1 ≠ w.heap.size + 1 := by omega
  generalize hg4 : w.heap.size + 1 + 1 = g4 at *
  generalize hg2 : w.heap.size + 1 = g2 at *
  generalize hg1 : w.heap.size = g1 at *
  generalize ((w.alloc _).alloc _).alloc _ = W at *
  have HLO2 : Hid (w.heap.size ≤ g2 ∧ w.heap.size ≤ g4) := by rw [hg1]; exact HLO
  clear hg4 hg2 hg1
  have y6 := B1.at (i := 6) rfl
  have f6 := B4.free 6
  have u6 := B4.at (i := 6) rfl
  go_upto_region 14 with (fail)
  have hcV : Chg [g4] W (W.setCell ⟨g4, 6, none⟩ (.int .i64 i)) := ((Chg.refl [g4] W).setCell ⟨g4, 6, none⟩ (.int .i64 i) (.inl (by simp)))
  have B4V : Blk (W.setCell ⟨g4, 6, none⟩ (.int .i64 i)) g4 49 [.int .i64 6, .int .i64 0, .int .i64 0, .bool false, .int .u64 0, .int .u64 0, .int .i64 i] := (B4.set 6 (.int .i64 i))
  have B2V := B2.chg hcV (by simp; exact fun e => hn2 e.symm)
  have CV : Chg [] w (W.setCell ⟨g4, 6, none⟩ (.int .i64 i)) := HC.out.trans' hcV (fun z hz => .inr (by simp at hz; rw [hz]; exact HLO2.out.2))
  have HCV := Lib.hid CV
  clear B1 B2 B4 hcV CV HC y6 f6 u6
  generalize W.setCell ⟨g4, 6, none⟩ (.int .i64 i) = V at *
  have x0 := B4V.at (i := 0) rfl
  have x1 := B4V.at (i := 1) rfl
  have x2 := B4V.at (i := 2) rfl
  have x3 := B4V.at (i := 3) rfl
  have x4 := B4V.at (i := 4) rfl
  have x5 := B4V.at (i := 5) rfl
  have x6 := B4V.at (i := 6) rfl
  have z0 := B2V.at (i := 0) rfl
  have f0 := B2V.free 0
  have z1 := B2V.at (i := 1) rfl
  have f1 := B2V.free 1
  have z2 := B2V.at (i := 2) rfl
  have f2 := B2V.free 2
  have z3 := B2V.at (i := 3) rfl
  have f3 := B2V.free 3
  have z4 := B2V.at (i := 4) rfl
  have f4 := B2V.free 4
  have z5 := B2V.at (i := 5) rfl
  have f5 := B2V.free 5
  have z6 := B2V.at (i := 6) rfl
  have f6 := B2V.free 6
  go_wp2_with fail
  exact bodyPost_ret (v := .tuple #[txv (⟨6, 0, 0, false, 0, 0, i⟩ : Txx), .bool true]) (by simp [results, Tryz.results161, go_sem, z0, z1, z2, z3, z4, z5, z6]) rfl ⟨rfl, sto7_chg HCV.out g2 (⟨6, 0, 0, false, 0, 0, i⟩ : Txx) (.inr HLO2.out.1)⟩
set_option maxRecDepth 100000 in
set_option maxHeartbeats 2000000 in
theorem fields0 (t : Txx) (hk : txK t = false) (w : World) :
    Calls Tryz.prog 161 #[txv t] w fun e w' => e = .returned (.tuple #[txv (txF t), .bool (txK t)]) ∧ Chg [] w w' := by
  obtain ⟨kd, ax, td, by', p, q, i⟩ := t
  have hk0 : ¬ (1 ≤ kd ∧ kd ≤ 6) := by unfold txK at hk; simpa using hk
  have HT : Hid (txF ⟨kd, ax, td, by', p, q, i⟩ = (⟨0, 0, 0, false, 0, 0, 0⟩ : Txx) ∧ txK ⟨kd, ax, td, by', p, q, i⟩ = false) := ⟨by unfold txF; dsimp only; rw [if_neg (by omega), if_neg (by omega), if_neg (by omega), if_neg (by omega)], hk⟩
  have HF := HT.out.1
  have HK := HT.out.2
  rw [HF, HK]
  clear HF HK hk
  have d1 : (kd == 1) = false := beq_eq_false_iff_ne.2 (by omega)
  have d2 : (kd == 2) = false := beq_eq_false_iff_ne.2 (by omega)
  have d3 : (kd == 3) = false := beq_eq_false_iff_ne.2 (by omega)
  have d4 : (kd == 4) = false := beq_eq_false_iff_ne.2 (by omega)
  have d5 : (kd == 5) = false := beq_eq_false_iff_ne.2 (by omega)
  have d6 : (kd == 6) = false := beq_eq_false_iff_ne.2 (by omega)
  clear hk0
  have B1 : Blk (((w.alloc (.cells #[.int .i64 kd, .int .i64 ax, .int .i64 td, .bool by', .int .u64 p, .int .u64 q, .int .i64 i] 49)).alloc (.cells #[.int .i64 0, .int .i64 0, .int .i64 0, .bool false, .int .u64 0, .int .u64 0, .int .i64 0] 49)).alloc (.cells #[.int .i64 kd, .int .i64 0, .int .i64 0, .bool false, .int .u64 0, .int .u64 0, .int .i64 0] 49)) w.heap.size 49 [.int .i64 kd, .int .i64 ax, .int .i64 td, .bool by', .int .u64 p, .int .u64 q, .int .i64 i] := ((Blk.new w [.int .i64 kd, .int .i64 ax, .int .i64 td, .bool by', .int .u64 p, .int .u64 q, .int .i64 i] 49).alloc _).alloc _
  have B2 : Blk (((w.alloc (.cells #[.int .i64 kd, .int .i64 ax, .int .i64 td, .bool by', .int .u64 p, .int .u64 q, .int .i64 i] 49)).alloc (.cells #[.int .i64 0, .int .i64 0, .int .i64 0, .bool false, .int .u64 0, .int .u64 0, .int .i64 0] 49)).alloc (.cells #[.int .i64 kd, .int .i64 0, .int .i64 0, .bool false, .int .u64 0, .int .u64 0, .int .i64 0] 49)) (w.heap.size + 1) 49 [.int .i64 0, .int .i64 0, .int .i64 0, .bool false, .int .u64 0, .int .u64 0, .int .i64 0] := by
    have := Blk.new (w.alloc (.cells #[.int .i64 kd, .int .i64 ax, .int .i64 td, .bool by', .int .u64 p, .int .u64 q, .int .i64 i] 49)) [.int .i64 0, .int .i64 0, .int .i64 0, .bool false, .int .u64 0, .int .u64 0, .int .i64 0] 49
    rw [World.size_alloc] at this
    exact this.alloc _
  have B4 : Blk (((w.alloc (.cells #[.int .i64 kd, .int .i64 ax, .int .i64 td, .bool by', .int .u64 p, .int .u64 q, .int .i64 i] 49)).alloc (.cells #[.int .i64 0, .int .i64 0, .int .i64 0, .bool false, .int .u64 0, .int .u64 0, .int .i64 0] 49)).alloc (.cells #[.int .i64 kd, .int .i64 0, .int .i64 0, .bool false, .int .u64 0, .int .u64 0, .int .i64 0] 49)) (w.heap.size + 1 + 1) 49 [.int .i64 kd, .int .i64 0, .int .i64 0, .bool false, .int .u64 0, .int .u64 0, .int .i64 0] := by
    have := Blk.new ((w.alloc (.cells #[.int .i64 kd, .int .i64 ax, .int .i64 td, .bool by', .int .u64 p, .int .u64 q, .int .i64 i] 49)).alloc (.cells #[.int .i64 0, .int .i64 0, .int .i64 0, .bool false, .int .u64 0, .int .u64 0, .int .i64 0] 49)) [.int .i64 kd, .int .i64 0, .int .i64 0, .bool false, .int .u64 0, .int .u64 0, .int .i64 0] 49
    rwa [World.size_alloc, World.size_alloc] at this
  have HC : Hid (Chg [] w (((w.alloc (.cells #[.int .i64 kd, .int .i64 ax, .int .i64 td, .bool by', .int .u64 p, .int .u64 q, .int .i64 i] 49)).alloc (.cells #[.int .i64 0, .int .i64 0, .int .i64 0, .bool false, .int .u64 0, .int .u64 0, .int .i64 0] 49)).alloc (.cells #[.int .i64 kd, .int .i64 0, .int .i64 0, .bool false, .int .u64 0, .int .u64 0, .int .i64 0] 49))) := (((Chg.refl _ _).alloc _).alloc _).alloc _
  have HLO : Hid (w.heap.size ≤ w.heap.size + 1 ∧ w.heap.size ≤ w.heap.size + 1 + 1) := ⟨by omega, by omega⟩
  go_enter Tryz.func161, Tryz.ntmps161
  go_upto_region 3 with (fail)
  have hn2 : w.heap.size + 1 + 1 ≠ w.heap.size + 1 := by omega
  generalize hg4 : w.heap.size + 1 + 1 = g4 at *
  generalize hg2 : w.heap.size + 1 = g2 at *
  generalize hg1 : w.heap.size = g1 at *
  generalize ((w.alloc _).alloc _).alloc _ = W at *
  have HLO2 : Hid (w.heap.size ≤ g2 ∧ w.heap.size ≤ g4) := by rw [hg1]; exact HLO
  clear hg4 hg2 hg1
  have z0 := B2.at (i := 0) rfl
  have f0 := B2.free 0
  have z1 := B2.at (i := 1) rfl
  have f1 := B2.free 1
  have z2 := B2.at (i := 2) rfl
  have f2 := B2.free 2
  have z3 := B2.at (i := 3) rfl
  have f3 := B2.free 3
  have z4 := B2.at (i := 4) rfl
  have f4 := B2.free 4
  have z5 := B2.at (i := 5) rfl
  have f5 := B2.free 5
  have z6 := B2.at (i := 6) rfl
  have f6 := B2.free 6
  go_wp2_with fail
  exact bodyPost_ret (v := .tuple #[txv (⟨0, 0, 0, false, 0, 0, 0⟩ : Txx), .bool false]) (by simp [results, Tryz.results161, go_sem, z0, z1, z2, z3, z4, z5, z6]) rfl ⟨rfl, sto7_chg HC.out g2 (⟨0, 0, 0, false, 0, 0, 0⟩ : Txx) (.inr HLO2.out.1)⟩
theorem fields_any (t : Txx) (w : World) : Calls Tryz.prog 161 #[txv t] w fun e w' => e = .returned (.tuple #[txv (txF t), .bool (txK t)]) ∧ Chg [] w w' := by
  by_cases h1 : t.kind = 1
  · exact fields1 t h1 w
  by_cases h2 : t.kind = 2
  · exact fields2 t h2 w
  by_cases h3 : t.kind = 3
  · exact fields3 t h3 w
  by_cases h4 : t.kind = 4
  · exact fields4 t h4 w
  by_cases h5 : t.kind = 5
  · exact fields5 t h5 w
  by_cases h6 : t.kind = 6
  · exact fields6 t h6 w
  exact fields0 t (by unfold txK; simp; omega) w
end Go.Proofs.YteabcpmpcbjicaaGreat

namespace Go.Proofs.YteabcpmpcbjicaaGreat
set_option linter.unusedVariables false
open Go Go.Proofs Go.RowKit
attribute [local go_sem ↓] Go.wp_at_zero Go.wp_at_succ

set_option maxRecDepth 100000 in
set_option maxHeartbeats 2000000 in
theorem txok_any (t : Txx) (w : World) : Calls Tryz.prog 127 #[txv t] w fun e w' => e = .returned (.bool (txOk t)) ∧ Chg [] w w' := by
  obtain ⟨kd, ax, td, by', p, q, i⟩ := t
  have B1 : Blk (w.alloc (.cells #[.int .i64 kd, .int .i64 ax, .int .i64 td, .bool by', .int .u64 p, .int .u64 q, .int .i64 i] 49)) w.heap.size 49 (txc ⟨kd, ax, td, by', p, q, i⟩) := Blk.new w (txc ⟨kd, ax, td, by', p, q, i⟩) _
  have HC : Hid (Chg [] w (w.alloc (.cells #[.int .i64 kd, .int .i64 ax, .int .i64 td, .bool by', .int .u64 p, .int .u64 q, .int .i64 i] 49))) := (Chg.refl _ _).alloc _
  obtain ⟨u, hu⟩ : ∃ u, txF ⟨kd, ax, td, by', p, q, i⟩ = u := ⟨_, rfl⟩
  obtain ⟨k0, hk⟩ : ∃ u, txK ⟨kd, ax, td, by', p, q, i⟩ = u := ⟨_, rfl⟩
  obtain ⟨k1, a1, d1, b1, p1, q1, i1⟩ := u
  have HU := Lib.hid hu
  have HK := Lib.hid hk
  clear hu hk
  go_enter Tryz.func127, Tryz.ntmps127
  go_upto_region 1 with (fail)
  generalize w.heap.size = g at *
  generalize w.alloc _ = W at *
  have y0 := B1.at (i := 0) rfl
  have y1 := B1.at (i := 1) rfl
  have y2 := B1.at (i := 2) rfl
  have y3 := B1.at (i := 3) rfl
  have y4 := B1.at (i := 4) rfl
  have y5 := B1.at (i := 5) rfl
  have y6 := B1.at (i := 6) rfl
  go_wp2_with fail
  refine (fields_any ⟨kd, ax, td, by', p, q, i⟩ W).mono ?_
  rw [HU.out, HK.out]
  rintro e w2 ⟨rfl, c2⟩
  have B2 := B1.chg c2 (by simp)
  clear B1 y0 y1 y2 y3 y4 y5 y6
  go_upto_region 2 with (fail)
  have B3 := B2.alloc (.cells #[.int .i64 k1, .int .i64 a1, .int .i64 d1, .bool b1, .int .u64 p1, .int .u64 q1, .int .i64 i1] 49)
  have B4 : Blk (w2.alloc (.cells #[.int .i64 k1, .int .i64 a1, .int .i64 d1, .bool b1, .int .u64 p1, .int .u64 q1, .int .i64 i1] 49)) w2.heap.size 49 (txc ⟨k1, a1, d1, b1, p1, q1, i1⟩) := Blk.new w2 (txc ⟨k1, a1, d1, b1, p1, q1, i1⟩) _
  have C3 := Lib.hid ((HC.out.trans c2).alloc (.cells #[.int .i64 k1, .int .i64 a1, .int .i64 d1, .bool b1, .int .u64 p1, .int .u64 q1, .int .i64 i1] 49))
  clear B2 c2 HC
  generalize w2.heap.size = g3 at *
  generalize w2.alloc _ = W3 at *
  cases k0
  · go_wp2_with fail
    go_ret
    exact ⟨ret_bool (by unfold txOk; rw [HK.out]; rfl), C3.out⟩
  · have y0 := B3.at (i := 0) rfl
    have y1 := B3.at (i := 1) rfl
    have y2 := B3.at (i := 2) rfl
    have y3 := B3.at (i := 3) rfl
    have y4 := B3.at (i := 4) rfl
    have y5 := B3.at (i := 5) rfl
    have y6 := B3.at (i := 6) rfl
    have z0 := B4.at (i := 0) rfl
    have z1 := B4.at (i := 1) rfl
    have z2 := B4.at (i := 2) rfl
    have z3 := B4.at (i := 3) rfl
    have z4 := B4.at (i := 4) rfl
    have z5 := B4.at (i := 5) rfl
    have z6 := B4.at (i := 6) rfl
    by_cases hE : (⟨k1, a1, d1, b1, p1, q1, i1⟩ : Txx) = ⟨kd, ax, td, by', p, q, i⟩
    · injection hE with e1 e2 e3 e4 e5 e6 e7
      subst e1 e2 e3 e4 e5 e6 e7
      obtain ⟨v1, hv1⟩ : ∃ v, tIn a1 1 = v := ⟨_, rfl⟩
      obtain ⟨v2, hv2⟩ : ∃ v, tIn d1 2147483647 = v := ⟨_, rfl⟩
      obtain ⟨v3, hv3⟩ : ∃ v, tIn i1 2147483647 = v := ⟨_, rfl⟩
      have HV : Hid (txOk ⟨k1, a1, d1, b1, p1, q1, i1⟩ = (v1 && v2 && v3)) := by
        show _ = _
        unfold txOk
        rw [HK.out, HU.out]
        dsimp only
        rw [hv1, hv2, hv3]
        simp
      have HV1 := Lib.hid hv1
      have HV2 := Lib.hid hv2
      have HV3 := Lib.hid hv3
      clear hv1 hv2 hv3
      go_wp2_with fail
      refine (twithin_any a1 1 W3).mono ?_
      rw [HV1.out]
      rintro e w6 ⟨rfl, rfl⟩
      cases v1
      · go_wp2_with fail
        go_ret
        exact ⟨ret_bool HV.out.symm, C3.out⟩
      · go_wp2_with fail
        refine (twithin_any d1 2147483647 W3).mono ?_
        rw [HV2.out]
        rintro e w6 ⟨rfl, rfl⟩
        cases v2
        · go_wp2_with fail
          go_ret
          exact ⟨ret_bool HV.out.symm, C3.out⟩
        · go_wp2_with fail
          refine (twithin_any i1 2147483647 W3).mono ?_
          rw [HV3.out]
          rintro e w6 ⟨rfl, rfl⟩
          cases v3
          · go_wp2_with fail
            go_ret
            exact ⟨ret_bool HV.out.symm, C3.out⟩
          · go_wp2_with fail
            go_ret
            exact ⟨ret_bool HV.out.symm, C3.out⟩
    · have HF : Hid (txOk ⟨kd, ax, td, by', p, q, i⟩ = false) := by
        show _ = _
        unfold txOk
        rw [HU.out, decide_eq_false hE]
        simp
      have HNE := Lib.hid hE
      clear hE
      go_wp2_with fail
      all_goals first
        | (go_ret; exact ⟨ret_bool HF.out.symm, C3.out⟩)
        | (exfalso; refine HNE.out ?_; simp only [Txx.mk.injEq]; refine ⟨?_, ?_, ?_, ?_, ?_, ?_, ?_⟩ <;> first | assumption | rfl | simp_all)
end Go.Proofs.YteabcpmpcbjicaaGreat
