
import Derived.Test.YteabcpmpcbjicaaGreatWire
import Derived.Test.YteabcpmpcbjicaaGreatAcctA
namespace Go.Proofs.YteabcpmpcbjicaaGreat
set_option linter.unusedVariables false
open Go Go.Proofs Go.RowKit
attribute [local go_sem ↓] Go.wp_at_zero Go.wp_at_succ

theorem own_chg2 {w w' : World} {base n : Nat} {T : TypeId} {sz : Nat} {v : Value} {xs : List Value} {S : List Nat} (h : w.ownsRow base T sz v n xs) (c : Chg S w w') (hs : ∀ k, v.ownBlock = some k → k ∉ S) : w'.ownsRow base T sz v n xs := by
  refine ⟨h.1, ?_⟩
  rcases h.2 with h1 | ⟨gg, cp, cur, hv, hg, hh, hr⟩
  · exact .inl h1
  · exact .inr ⟨gg, cp, cur, hv, hg, (c.block gg (Array.getElem?_eq_some_iff.1 hh).1 (hs gg (by rw [hv]; rfl))).trans hh, hr⟩
theorem Wri.aside {w w' : World} {g : Nat} {F S : List Nat} {l : List Int} (h : Wri w g F l) (c : Chg S w w') (hs : ∀ z ∈ S, z ∉ F) : Wri w' g F l := by
  obtain ⟨v, hb, ho, hv⟩ := h.hd
  exact ⟨⟨v, hb.chg c (fun hm => hs g hm h.inF), own_chg2 ho c (fun k hk hm => hs k hm (hv k hk)), hv⟩, h.inF, h.lo⟩
theorem Wri.to {w w' : World} {g : Nat} {F : List Nat} {l : List Int} (h : Wri w g F l) (c : Chg [] w w') : Wri w' g F l := h.aside c (by simp)
theorem wpList_append_at {P : Program} {ops : Array Oper} {rest : List Oper} {o : Oper} {a : Act} (w : World) {Q : Exit → Act → World → Prop} (hgd : o.guard = none) (s x : Operand) (t : TypeId)
    (ho : o.op = .call { callee := .builtin .append, args := #[s, x], argTypes := #[t, t] })
    (base : Nat) (e : TypeId) (i : TypeInfo) (z : Value) (size bytes : Nat) (ht : P.underlying t = some (.slice e)) (hi : P.info? e = some i) (hz : i.zero = some z)
    (hsize : i.size = size) (hby : i.bytes = bytes) (hzs : z.cells.size = size) (hsz : 0 < size)
    (v : Value) (n : Nat) (xs : List Value) (hs : a.eval s = v) (hown : w.ownsRow base e size v n xs)
    (ad : Addr) (m c : Nat) (news : List Value) (hx : a.eval x = .slice (some ad) m c) (hl : news.length = m * size) (hnews : ∀ j u, news[j]? = some u → w.cell? (ad.add j) = some u) (h1 : ∀ u ∈ news, u.oneCell' = true)
    (h63 : n + m ≤ maxLen) (hbytes : (n + m) * bytes ≤ 140737488355328) (hbase : base ≤ w.heap.size)
    (h : ∀ v' w', w'.ownsRow base e size v' (n + m) (xs ++ news) → w.grownBy w' v.ownBlock → (v'.ownBlock = v.ownBlock ∨ v'.ownBlock = some w.heap.size) → wpList P ops Q rest (a.put o.dst v') w') : wpList P ops Q (o :: rest) a w :=
  wpList_plain hgd fun _ hK => wp_append_own w s x t ho base e i z size bytes ht hi hz hsize hby hzs hsz v n xs hs hown ad m c news hx hl hnews h1 h63 hbytes hbase (fun v' w' p q r => hK _ _ (h v' w' p q r))
theorem wNew (w : World) : Calls Tryz.prog 104 #[] w fun e w' => e = .returned (.pointer (some ⟨w.heap.size, 0, none⟩)) ∧ Wri w' w.heap.size [w.heap.size] [] ∧ Chg [] w w' := by
  have hb : Blk (w.alloc (.cells #[.slice none 0 0] 236)) w.heap.size 236 [.slice none 0 0] := Blk.new w _ _
  go_enter Tryz.func104, Tryz.ntmps104
  go_wp2_with fail
  go_ret
  exact ⟨rfl, ⟨⟨_, hb, ⟨by simp [bys], .inl ⟨rfl, rfl⟩⟩, fun k hk => by simp [Value.ownBlock] at hk⟩, by simp, by simp⟩, (Chg.refl _ _).alloc _⟩
def uN (n : Int) : Int := n % 18446744073709551616
theorem uN_wrap (n : Int) : IntKind.u64.wrap n = uN n := by simp [IntKind.wrap, IntKind.bits, IntKind.signed, uN]
theorem uN_U (n : Int) : U (uN n) := by unfold uN U; omega
theorem wint {w : World} {g : Nat} {F : List Nat} {l : List Int} (h : Wri w g F l) (n : Int) (hl : l.length < 900000000) :
    Calls Tryz.prog 106 #[.pointer (some ⟨g, 0, none⟩), .int .i64 n] w fun e w' => e = .returned (.tuple #[]) ∧ ∃ F', Wri w' g F' (l ++ num8 (uN n)) ∧ Chg F w w' ∧ Grw w.heap.size F F' := by
  have hw := uN_wrap n
  go_enter Tryz.func106, Tryz.ntmps106
  go_wp2_with fail
  refine (wnum h (uN n) (uN_U n) hl).mono ?_
  rintro e w2 ⟨rfl, F2, h2, b2, g2⟩
  go_wp2_with fail
  go_end0
  exact ⟨rfl, F2, h2, b2, g2⟩
set_option maxHeartbeats 1000000 in
theorem cloneB {w : World} {g n cap : Nat} {l : List Int} (hl : l.length = n) (hn : n ≤ 1000000000) (h : Beg w g 5 (bys l)) :
    Calls Tryz.prog 121 #[.slice (some ⟨g, 0, none⟩) n cap] w fun e w' => ∃ v, e = .returned v ∧ v ≠ .slice none 0 0 ∧ w'.ownsRow w.heap.size 5 1 v n (bys l) ∧ Chg [] w w' := by
  obtain ⟨i0, hi, hz0, hz1, hz2⟩ := info_parts info_u8
  have heq := run_slice_nil (P := Tryz.prog) Tryz.underlying95
  go_enter Tryz.func121, Tryz.ntmps121
  go_wp2_with (at_builtin; refine wpList_append_own _ rfl (.tmp 5) (.tmp 6) 95 rfl w.heap.size 5 i0 (.int .u8 0) 1 1 Tryz.underlying95 hi hz0 hz1 hz2 rfl (by decide) _ 0 [] rfl (own_empty _ _ _ (Nat.le_refl _)) ⟨g, 0, none⟩ n cap (bys l) rfl ?c0 ?c1 ?c2 ?c3 ?c4 ?c5 ?_)
  case c0 => simp [bys]; omega
  case c1 => intro j u hj; rw [add_none, Nat.zero_add]; exact (h.alloc _).at hj
  case c2 => intro u hu; obtain ⟨y, _, rfl⟩ := List.mem_map.1 hu; rfl
  case c3 => unfold maxLen; omega
  case c4 => omega
  case c5 => simp
  intro v' w1 hown hg hnil
  have hc1 : Chg [] w w1 := ((Chg.refl _ _).alloc _).grown hg (fun k hk => by simp [Value.ownBlock] at hk; omega)
  obtain ⟨a, c, hv⟩ := own_slice hown
  subst hv
  go_wp2_with fail
  go_ret
  exact ⟨_, rfl, by simpa using hnil, by simpa using hown, hc1⟩
theorem wbytes {w : World} {g : Nat} {F : List Nat} {l : List Int} (h : Wri w g F l) (hl : l.length ≤ 1000000000) (hne : l ≠ []) :
    Calls Tryz.prog 109 #[.pointer (some ⟨g, 0, none⟩)] w fun e w' => ∃ gg cap, e = .returned (.slice (some ⟨gg, 0, none⟩) l.length cap) ∧ w.heap.size ≤ gg ∧ Beg w' gg 5 (bys l) ∧ Chg [] w w' := by
  obtain ⟨v, hb, ho, _⟩ := h.hd
  have hv : v ≠ .slice none 0 0 := by
    rintro rfl
    have hx := ho.1
    rcases ho.2 with ⟨_, h1⟩ | ⟨_, _, _, h1, _⟩
    · exact hne (List.eq_nil_of_length_eq_zero h1)
    · cases h1
  obtain ⟨gr, cap, rfl, _, _, _, hbe, _⟩ := own_beg ho hv
  have h0 := hb.at (i := 0) rfl
  obtain ⟨n, hn⟩ : ∃ n, l.length = n := ⟨_, rfl⟩
  rw [hn] at h0 hl ⊢
  clear hb ho hv
  have HN := Lib.hid hn
  clear hn
  go_enter Tryz.func109, Tryz.ntmps109
  go_wp2_with fail
  refine (cloneB HN.out hl hbe).mono ?_
  rintro e w2 ⟨v, rfl, hv2, ho2, c2⟩
  obtain ⟨gg, cp, rfl, lo, _, _, hbe2, _⟩ := own_beg ho2 hv2
  go_wp2_with fail
  go_ret
  exact ⟨gg, cp, rfl, lo, hbe2, c2⟩
set_option maxRecDepth 100000 in
set_option maxHeartbeats 2000000 in
theorem wtext {w : World} {g : Nat} {F : List Nat} {l : List Int} (h : Wri w g F l) (ga n c : Nat) (bs : List Int) (hbs : bs.length = n) (hn : n ≤ 1000000) (hl : l.length < 800000000) (hc : Beg w ga 5 (bys bs)) (hga : ga ∉ F) :
    Calls Tryz.prog 105 #[.pointer (some ⟨g, 0, none⟩), .slice (some ⟨ga, 0, none⟩) n c] w fun e w' => e = .returned (.tuple #[]) ∧ ∃ F', Wri w' g F' (l ++ num8 (n : Int) ++ bs) ∧ Chg F w w' ∧ Grw w.heap.size F F' := by
  obtain ⟨i0, hi, hz0, hz1, hz2⟩ := info_parts info_u8
  have hun : uN (n : Int) = (n : Int) := by unfold uN; omega
  have HUN := Lib.hid hun
  have HBS := Lib.hid hbs
  clear hun hbs
  go_enter Tryz.func105, Tryz.ntmps105
  go_wp2_with fail
  refine (wint h (n : Int) (by omega)).mono ?_
  rw [HUN.out]
  rintro e w2 ⟨rfl, F2, h2, c2, g2⟩
  have hc2 := hc.chg c2 hga
  obtain ⟨v, hb, ho, hv⟩ := h2.hd
  have h0 := hb.at (i := 0) rfl
  have hlt := hb.lt
  have hlen : (l ++ num8 (n : Int)).length = l.length + 8 := by simp [num8]
  obtain ⟨m, hm⟩ : ∃ m, (l ++ num8 (n : Int)).length = m := ⟨_, rfl⟩
  rw [hm] at ho hlen
  have HIN := h2.inF
  have HLO := Lib.hid h2.lo
  have hmb : m ≤ 900000000 := by omega
  clear hc hlen
  go_wp2_with (at_builtin; refine wpList_append_at _ rfl (.tmp 12) (.tmp 13) 95 rfl (g + 1) 5 i0 (.int .u8 0) 1 1 Tryz.underlying95 hi hz0 hz1 hz2 rfl (by decide) v m (bys (l ++ num8 (n : Int))) rfl ho ⟨ga, 0, none⟩ n c (bys bs) rfl ?c0 ?c1 ?c2 ?c3 ?c4 ?c5 ?_)
  case c0 => simp [bys, HBS.out]
  case c1 => intro j u hj; rw [add_none, Nat.zero_add]; exact hc2.at hj
  case c2 => intro u hu; obtain ⟨y, _, rfl⟩ := List.mem_map.1 hu; rfl
  case c3 => unfold maxLen; omega
  case c4 => omega
  case c5 => omega
  intro v1 w3 hown hg hat
  obtain ⟨a1, c1, hv1⟩ := own_slice hown
  subst hv1
  have cG : Chg F2 w2 w3 := (Chg.refl F2 w2).grown hg (fun k hk => .inl (hv k hk))
  have hE : w3.heap[g]? = w2.heap[g]? := hg.block g hlt (fun e => by have := own_base ho g e.symm; omega)
  have hb3 := hb.same hE
  have hf3 := hb3.free 0
  have h03 := hb3.at (i := 0) rfl
  have hat2 : ∀ k, Value.ownBlock (.slice a1 (m + n) c1) = some k → k ∈ F2 ∨ w2.heap.size ≤ k := fun k hk => hat.elim (fun e => .inl (hv k (e ▸ hk))) (fun e => .inr (by rw [hk] at e; injection e with e; rw [e]; exact Nat.le_refl _))
  have hln : Hid (m + n = (l ++ num8 (n : Int) ++ bs).length) := by show m + n = _; rw [List.length_append, hm, HBS.out]
  have hbb : Hid (bys (l ++ num8 (n : Int)) ++ bys bs = bys (l ++ num8 (n : Int) ++ bs)) := by show _ = _; simp [bys]
  obtain ⟨F3, hW, hG3⟩ := wri_sto (Fr := F2) (K := w2.heap.size) hb3 (by have h9 := hown; rw [hln.out, hbb.out] at h9; rw [hln.out]; exact h9) hat2 HIN HLO.out hlt
  have cW : Chg F w (w3.setCell ⟨g, 0, none⟩ (.slice a1 (m + n) c1)) := c2.trans' (cG.setCell ⟨g, 0, none⟩ (.slice a1 (m + n) c1) (.inl HIN)) (fun z hz => (g2 z hz).imp id id)
  have gW : Grw w.heap.size F F3 := g2.trans hG3 c2.size
  have HW := Lib.hid hW
  have HC := Lib.hid cW
  clear hown hg hat hat2 hE hb hb3 ho hv hc2 cG hW cW h2 c2 hG3
  go_wp2_with fail
  go_end0
  exact ⟨rfl, F3, HW.out, HC.out, gW⟩
end Go.Proofs.YteabcpmpcbjicaaGreat
