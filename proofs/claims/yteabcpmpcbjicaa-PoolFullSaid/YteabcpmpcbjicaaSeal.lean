
import Derived.Test.YteabcpmpcbjicaaSign
import Derived.Deep.RegionHeld3
namespace Go.Proofs.Yteabcpmpcbjicaa
set_option linter.unusedVariables false
set_option maxRecDepth 100000
open Go Go.Proofs Go.RowKit Go.Maps
attribute [local go_sem ↓] Go.wp_at_zero Go.wp_at_succ

/-- A cipher: its label, its text, who shared it; its text's address and room, its shares' block. -/
structure Cph where
  lab : Int
  pl : List Int
  sh : List Int
  a : Option Addr
  cp : Nat
  sb : Nat
def ccs (c : Cph) : List Value := [.int .i64 c.lab, .slice c.a c.pl.length c.cp, .map (some c.sb)]
theorem ccs_len (c : Cph) : (ccs c).length = 3 := rfl
/-- A text in memory. -/
def Txt (w : World) (a : Option Addr) (l : List Int) : Prop := (l = [] ∧ a = none) ∨ ∃ g, a = some ⟨g, 0, none⟩ ∧ Beg w g 5 (bys l)
theorem Txt.chg {w w' : World} {a : Option Addr} {l : List Int} {S : List Nat} (h : Txt w a l) (c : Chg S w w') (hs : ∀ z ∈ S, ∀ o, a = some o → o.block ≠ z) : Txt w' a l := by
  rcases h with h | ⟨g, rfl, h⟩
  · exact .inl h
  · exact .inr ⟨g, rfl, h.chg c (fun hm => hs g hm _ rfl rfl)⟩
theorem Txt.notC {w : World} {a : Option Addr} {l : List Int} (h : Txt w a l) {b : Nat} {T : TypeId} {cur : Array Value} {fr : Nat × Nat} (k : w.heap[b]? = some (.cells cur T fr)) (hT : T ≠ 5) : ∀ o, a = some o → o.block ≠ b := by
  rintro o ho rfl
  rcases h with ⟨_, h⟩ | ⟨g, rfl, sp, h⟩
  · rw [h] at ho; cases ho
  · injection ho with ho
    subst ho
    have := h.symm.trans k
    injection this with this
    injection this with _ this
    exact hT this.symm
theorem Txt.notMap {w : World} {a : Option Addr} {l : List Int} (h : Txt w a l) {b : Nat} {s : List Int} (k : MapI w b s) : ∀ o, a = some o → o.block ≠ b := by
  rintro o ho rfl
  rcases h with ⟨_, h⟩ | ⟨g, rfl, sp, h⟩
  · rw [h] at ho; cases ho
  · injection ho with ho
    subst ho
    obtain ⟨D, _, ⟨es, cl, h2, _⟩, _⟩ := k
    have := h.symm.trans h2
    injection this with this
    cases this
theorem MapI.notC {w : World} {b b' : Nat} {s : List Int} (h : MapI w b s) {T : TypeId} {cur : Array Value} {fr : Nat × Nat} (k : w.heap[b']? = some (.cells cur T fr)) : b ≠ b' := by
  rintro rfl
  obtain ⟨D, _, ⟨es, cl, h2, _⟩, _⟩ := h
  have := k.symm.trans h2
  injection this with this
  cases this
theorem own_cells {w : World} {base n : Nat} {T : TypeId} {sz : Nat} {v : Value} {xs : List Value} (h : w.ownsRow base T sz v n xs) {k : Nat} (hk : v.ownBlock = some k) : ∃ cur, w.heap[k]? = some (.cells cur T (0, 0)) := by
  rcases h.2 with ⟨h1, _⟩ | ⟨gg, c, cur, hv, hg, hh, hr⟩
  · rw [h1] at hk; cases hk
  · rw [hv] at hk
    injection hk with hk
    exact ⟨cur, hk ▸ hh⟩
/-- A vault: its struct's block g; its row lies behind it. -/
structure Vlt (w : World) (g : Nat) (F : List Nat) (need : Int) (L : List Cph) : Prop where
  hd : ∃ v, Blk w g 181 [.int .i64 need, v] ∧ w.ownsRow (g + 1) 188 3 v L.length (flat ccs L) ∧ ∀ k, v.ownBlock = some k → k ∈ F
  el : ∀ c ∈ L, MapI w c.sb c.sh ∧ c.sb ∈ F ∧ Txt w c.a c.pl ∧ ∀ o, c.a = some o → o.block ∈ F
  nd : (L.map Cph.sb).Nodup
  inF : g ∈ F
  lo : ∀ z ∈ F, g ≤ z
  lt : ∀ z ∈ F, z < w.heap.size
theorem Vlt.aside {w w' : World} {g : Nat} {F S : List Nat} {need : Int} {L : List Cph} (h : Vlt w g F need L) (c : Chg S w w') (hs : ∀ z ∈ S, z ∉ F) : Vlt w' g F need L := by
  obtain ⟨v, hb, ho, hv⟩ := h.hd
  exact ⟨⟨v, hb.chg c (fun hm => hs g hm h.inF), own_chg2 ho c (fun k hk hm => hs k hm (hv k hk)), hv⟩, fun x hx => ⟨(h.el x hx).1.chg c (fun hm => hs _ hm (h.el x hx).2.1), (h.el x hx).2.1, (h.el x hx).2.2.1.chg c (fun z hz o ho e => hs z hz (e ▸ (h.el x hx).2.2.2 o ho)), (h.el x hx).2.2.2⟩, h.nd, h.inF, h.lo, fun z hz => Nat.lt_of_lt_of_le (h.lt z hz) c.size⟩
theorem vNew (w : World) (n : Int) (hn : 1 ≤ n) : Calls Try.prog 55 #[.int .i64 n] w fun e w' => e = .returned (.pointer (some ⟨w.heap.size, 0, none⟩)) ∧ Vlt w' w.heap.size [w.heap.size] n [] ∧ Chg [] w w' ∧ w'.heap.size = w.heap.size + 1 := by
  have hm : max n 1 = n := by omega
  have HM := Lib.hid hm
  go_enter Try.func55, Try.ntmps55
  go_wp2_with fail
  go_ret
  have hb := Blk.new w [.int .i64 n, .slice none 0 0] 181
  exact ⟨rfl, ⟨⟨_, by simpa using hb, ⟨by simp [flat], .inl ⟨rfl, rfl⟩⟩, fun k hk => by simp [Value.ownBlock] at hk⟩, by simp, by simp, by simp, by simp, by simp⟩, (Chg.refl _ _).alloc _, by simp⟩
theorem cloneNil (w : World) : Calls Try.prog 105 #[.slice none 0 0] w fun e w' => e = .returned (.slice none 0 0) ∧ w = w' := by
  have heq : (binOp .eql 126 (.slice none 0 0) (.slice none 0 0)).run Try.prog w = .ok (.bool true) w := run_eql_nil_slice w 126 5 none 0 0 0 0 Try.underlying126
  go_enter Try.func105, Try.ntmps105
  go_wp2_with fail
  go_ret
  exact ⟨rfl, rfl⟩
theorem news_at (w : World) (o : Obj) (cs : List Value) (T : TypeId) : ∀ (j : Nat) u, cs[j]? = some u → ((w.alloc o).alloc (.cells cs.toArray T)).drew.cell? ((Addr.mk (w.heap.size + 1) 0 none).add j) = some u := fun j u hu => by
  rw [add_none, Nat.zero_add]
  have h := Blk.new (w.alloc o) cs T
  have e : (w.alloc o).heap.size = w.heap.size + 1 := by simp
  rw [e] at h
  exact h.at hu
theorem info_cph : (Try.prog.info? 188).map (fun i => (i.zero, i.size, i.bytes)) = some (some (.agg #[.int .i64 0, .slice none 0 0, .map none]), 3, 40) := by kernel_rfl
set_option maxHeartbeats 4000000 in
/-- Seal, of no text. -/
theorem vSeal {w : World} {g : Nat} {F : List Nat} {need : Int} {L : List Cph} (h : Vlt w g F need L) (lab : Int) (hL : L.length ≤ 1000000000) :
    Calls Try.prog 57 #[.pointer (some ⟨g, 0, none⟩), .int .i64 lab, .slice none 0 0] w fun e w' => e = .returned (.int .i64 ((L.length : Int) + 1)) ∧ ∃ F' sb, Vlt w' g F' need (L ++ [⟨lab, [], [], none, 0, sb⟩]) ∧ Chg F w w' ∧ Grw w.heap.size F F' := by
  obtain ⟨v, hd, ho, hv⟩ := h.hd
  obtain ⟨i0, hi, hz0, hz1, hz2⟩ := info_parts info_cph
  have hmm := @run_makeMap Try.prog
  have hlt := hd.lt
  have d1 := hd.at (i := 1) rfl
  have dA : ∀ ob, (w.alloc ob).cell? ⟨g, 1, none⟩ = some v := fun ob => (hd.alloc ob).at (i := 1) rfl
  have dA2 : ∀ ob ob2, ((w.alloc ob).alloc ob2).cell? ⟨g, 1, none⟩ = some v := fun ob ob2 => ((hd.alloc ob).alloc ob2).at (i := 1) rfl
  obtain ⟨m, hm⟩ : ∃ m, L.length = m := ⟨_, rfl⟩
  rw [hm] at ho hL
  have HM := Lib.hid hm
  have HH := Lib.hid h
  clear hm h
  go_enter Try.func57, Try.ntmps57
  go_upto_region 1 with (fail)
  go_cut [6] from 7 to 20 (fun x wx => x = .int .i64 0 ∧ ∃ v1, Blk wx g 181 [.int .i64 need, v1] ∧ wx.ownsRow (g + 1) 188 3 v1 (m + 1) (flat ccs L ++ [.int .i64 lab, .slice none 0 0, .map (some w.heap.size)]) ∧ (∀ k, v1.ownBlock = some k → k ∈ F ∨ w.heap.size < k) ∧ Chg (g :: v.ownBlock.toList) w wx ∧ MapI wx w.heap.size [])
  case first =>
    have news3 := news_at w (.map #[] 0) [.int .i64 lab, .slice none 0 0, .map (some w.heap.size)] 188
    have hI0 : MapI (((w.alloc (.map #[] 0)).alloc (.cells #[.int .i64 lab, .slice none 0 0, .map (some w.heap.size)] 188)).drew) w.heap.size [] := (MapI.new w).chg (((Chg.refl [] _).alloc _).drew) (by simp)
    go_region_law (first
        | ((go_simp; go_at_call 105; (with_reducible refine (cloneNil _).mono ?_); rintro e w' ⟨rfl, rfl⟩; dsimp only))
        | ((refine step_append_own _ rfl (.tmp 11) (.tmp 17) 179 rfl (g + 1) 188 i0 (.agg #[.int .i64 0, .slice none 0 0, .map none]) 3 40 Try.underlying179 hi hz0 hz1 hz2 rfl (by decide) v m (flat ccs L) rfl (((ho.alloc _).alloc _).drew) ⟨w.heap.size + 1, 0, none⟩ 1 1 [.int .i64 lab, .slice none 0 0, .map (some w.heap.size)] rfl rfl news3 (by simp [Value.oneCell']) (by unfold maxLen; omega) (by omega) (by simp; omega) ?_; intro v1 w1 hown1 hg1 hat1; obtain ⟨a1, c1, rfl⟩ := own_slice hown1; have hE1 : w1.heap[g]? = w.heap[g]? := (hg1.block g (by simp; omega) (fun e => by have := own_base ho g e.symm; omega)).trans ((Below.heap_alloc _ _ _ (by simp; omega)).trans (Below.heap_alloc _ _ _ hlt)); have c11 := (hd.same hE1).at (i := 1) rfl; have hf1 := (hd.same hE1).free 1)))
    all_goals
      have hF : Chg (g :: v.ownBlock.toList) w w1 := ((((Chg.refl _ w).alloc _).alloc _).drew).grown hg1 (fun k hk => .inl (by simp [hk]))
      have hI1 : MapI w1 w.heap.size [] := hI0.chg ((Chg.refl v.ownBlock.toList _).grown hg1 (fun k hk => .inl (by simp [hk]))) (fun hm => by have := (ho.lt _ (by simpa using hm)).2; omega)
      have hb2 := (hd.same hE1).set 1 (.slice a1 (m + 1) c1)
      have ho2 : (w1.setCell ⟨g, 1, none⟩ (.slice a1 (m + 1) c1)).ownsRow (g + 1) 188 3 (.slice a1 (m + 1) c1) (m + 1) (flat ccs L ++ [.int .i64 lab, .slice none 0 0, .map (some w.heap.size)]) := own_sto hown1 (fun k hk => by have := own_base hown1 k hk; show k ≠ g; omega)
      have hat2 : ∀ k, Value.ownBlock (.slice a1 (m + 1) c1) = some k → k ∈ F ∨ w.heap.size < k := fun k hk => hat1.elim (fun e => .inl (hv k (e ▸ hk))) (fun e => .inr (by rw [hk] at e; injection e with e; rw [e]; simp; omega))
      have hF2 := hF.setCell ⟨g, 1, none⟩ (.slice a1 (m + 1) c1) (.inl (by simp))
      have hI2 := hI1.chg ((Chg.refl [g] w1).setCell ⟨g, 1, none⟩ (.slice a1 (m + 1) c1) (.inl (by simp))) (by simp; omega)
      go_wp2_with fail
      go_meet
      exact ⟨rfl, _, hb2, ho2, hat2, hF2, hI2⟩
  case rest =>
    obtain ⟨rfl, v1, hb2, ho2, hat2, hF2, hI2⟩ := hcut
    obtain ⟨a1, c1, rfl⟩ := own_slice ho2
    have e1 := hb2.at (i := 1) rfl
    have hCF : Chg F w wc := hF2.mono (fun z hz => by
      rcases List.mem_cons.1 hz with e | e
      · exact e ▸ HH.out.inF
      · exact hv z (by simpa using e))
    have HCF := Lib.hid hCF
    have HF2 := Lib.hid hF2
    have HDC := Lib.hid hd
    have HO := Lib.hid ho
    clear hF2 hi d1 dA dA2 hd ho hCF hmm
    go_wp2_with fail
    go_ret
    have hlt2 := HH.out.lt
    have hsz := HCF.out.size
    refine ⟨by rw [HM.out]; simp, w.heap.size :: F ++ (Value.slice a1 (m + 1) c1).ownBlock.toList, w.heap.size, ⟨⟨_, hb2, ?_, fun k hk => by simp [hk]⟩, ?_, ?_, ?_, ?_, ?_⟩, HCF.out, ?_⟩
    · rw [flat_append, List.length_append, HM.out]; exact ho2
    · intro c hc
      rcases List.mem_append.1 hc with hm | hm
      · obtain ⟨q1, q2, q3, q4⟩ := HH.out.el c hm
        refine ⟨q1.chg HF2.out (fun hm => ?_), by simp [q2], q3.chg HF2.out (fun z hz => ?_), fun o ho => by simp [q4 o ho]⟩
        · simp only [List.mem_cons, Option.mem_toList] at hm
          rcases hm with e | e
          · exact q1.notC HDC.out e
          · obtain ⟨cur, hcur⟩ := own_cells HO.out e
            exact q1.notC hcur rfl
        · simp only [List.mem_cons, Option.mem_toList] at hz
          rcases hz with e | e
          · subst e; exact q3.notC HDC.out (by decide)
          · obtain ⟨cur, hcur⟩ := own_cells HO.out e
            exact q3.notC hcur (by decide)
      · simp only [List.mem_singleton] at hm
        subst hm
        exact ⟨hI2, by simp, .inl ⟨rfl, rfl⟩, fun o ho => by cases ho⟩
    · rw [List.map_append, List.nodup_append]
      refine ⟨HH.out.nd, by simp, fun a ha b hb e => ?_⟩
      simp only [List.map_cons, List.map_nil, List.mem_singleton] at hb
      obtain ⟨c, hc, rfl⟩ := List.mem_map.1 ha
      have := (HH.out.el c hc).1.lt
      omega
    · simp [HH.out.inF]
    · intro z hz
      simp only [List.cons_append, List.mem_cons, List.mem_append, Option.mem_toList] at hz
      rcases hz with e | e | e
      · omega
      · exact HH.out.lo z e
      · have := own_base ho2 z e; omega
    · intro z hz
      simp only [List.cons_append, List.mem_cons, List.mem_append, Option.mem_toList] at hz
      rcases hz with e | e | e
      · rw [e]; exact hI2.lt
      · have := hlt2 z e; omega
      · exact (ho2.lt z e).2
    · intro z hz
      simp only [List.cons_append, List.mem_cons, List.mem_append, Option.mem_toList] at hz
      rcases hz with e | e | e
      · right; omega
      · exact .inl e
      · exact (hat2 z e).imp id (fun q => by omega)
end Go.Proofs.Yteabcpmpcbjicaa
