/-
  The walk of Read.
-/
import Derived.Test.YtdohcglpcgahaaaGreatDoorWR
import Derived.Test.YtdohcglpcgahaaaGreatDoorRY
import Derived.Test.YtdohcglpcgahaaaGreatDoorSR
set_option linter.unusedSimpArgs false
set_option linter.unusedVariables false
namespace Go.Proofs.YtdohcglpcgahaaaGreatDoor
open Go Sat Go.RowKit Go.PlainAid
theorem runE_cons (b : UInt8) (l : List UInt8) (i : Nat) (r : Rd) : runE (b :: l) i r = match stepE r i b.toNat with
    | .error e => ([], e.1, e.2)
    | .ok r' => runE l (i + 1) r' := rfl
theorem dec_at {s : ByteArray} {k : Nat} {c : UInt8} (h : s.data.toList[k]? = some c) (hc : c.toNat < 128) : Utf8.decode s k = (c.toNat, 1) := by
  have hk : k < s.size := (List.getElem?_eq_some_iff.1 h).1
  have e : s[k]'hk = c := (List.getElem?_eq_some_iff.1 h).2
  have := decode_ascii s k hk (by rw [e]; exact hc)
  rw [e] at this
  exact this
theorem dec_high {s : ByteArray} {k : Nat} {c : UInt8} (h : s.data.toList[k]? = some c) (hc : 128 ≤ c.toNat) : 128 ≤ (Utf8.decode s k).1 := by
  have hk : k < s.size := (List.getElem?_eq_some_iff.1 h).1
  have e : s[k]'hk = c := (List.getElem?_eq_some_iff.1 h).2
  exact (decode_high s k hk (by rw [e]; exact hc)).1
def itP (g : Nat) (s : ByteArray) (k : Nat) : World → Prop := fun w => w.heap[g]? = some (.stringIter s k)
/-- what a text is read as, in memory -/
def AnsM (a : Ans) (w : World) (B : Nat → Prop) (v : Value) : Prop := NL w B v a.1
theorem stH_refl (m : Mem) (r : Rd) (i : Int) : hsub (stH m r i) (stH m r i) := by
  unfold stH
  split
  · exact hsub_of rfl
  split
  · exact hsub_of rfl
  · exact hsub_of rfl
set_option maxRecDepth 100000 in
set_option maxHeartbeats 8000000 in
theorem read_any (s : ByteArray) (w : World) :
    Calls Tryz.prog 28 #[.string s] w (Gives (fun v => .tuple #[v, .int .i64 (readE s.data.toList).2.1, .int .i64 (readE s.data.toList).2.2]) (AnsM (readE s.data.toList)) w) := by
  refine calls_sat (cx := Tryz.cx 62 [] [] [] w) (Tryz.ok ..) Tryz.func28 rfl [.v (.string s)] rfl (by show 1 ≤ 62; omega) [] (holds_nil (Nat.le_refl _)) ?_
  by_cases hlong : 65536 < s.size
  · have e : readE s.data.toList = ([], 0, 3) := by unfold readE; rw [if_pos (show 65536 < s.data.toList.length from hlong)]
    rw [e]
    repeat' ((conv => whnf); first | refine walk (Tryz.ok ..) ?_ | (refine Cnd.mk (fun h => ?_) (fun h => ?_) <;> (first | exact cndT h (by (try dsimp only); omega) | exact cndF h (by (try dsimp only); omega) | (exfalso; simp at h; omega) | simp at h | skip)) | fail)
    exact done_fuse (v := .slice none 0 0) rfl rfl [] (fun w _ => nest_nil) rfl
  obtain ⟨l, hl⟩ : ∃ l, l = s.data.toList := ⟨_, rfl⟩
  have hsz : s.size = l.length := by rw [hl]; rfl
  have e : readE l = runE l 0 rd0 := by unfold readE; rw [if_neg (by omega)]
  rw [← hl]
  repeat' ((conv => whnf); first | refine walk (Tryz.ok ..) ?_ | (refine Cnd.mk (fun h => ?_) (fun h => ?_) <;> (first | exact cndT h (by (try dsimp only); omega) | exact cndF h (by (try dsimp only); omega) | (exfalso; simp at h; omega) | simp at h | skip)) | fail)
  (conv => whnf)
  intro g13 hg13
  repeat' ((conv => whnf); first | refine walk (Tryz.ok ..) ?_ | refine side2 ?_ | fail)
  refine Sat.other_range_str (Tryz.ok 62 [] [] [] w.heap.size [] w).T (i := _) rfl rfl (s := s) rfl ?_
  intro gI hgI
  repeat' ((conv => whnf); first | refine walk (Tryz.ok ..) ?_ | fail)
  refine sat_fuse 905 [] rfl fun w0 hw0 => ?_
  refine sat_ren [(0, .yes, .v (.string s)), (5, .yes, .p 900 g13 0 0), (20, .yes, .v (.pointer (some ⟨gI, 0, none⟩)))] [(900, 13, .blk g13 108 [.v (.slice none 0 0), .fn (Fn.func 57) [.p 13 g13 0 0] [], .v (.slice none 0 0), .v (.bool false), .v (.bool false), .v (.int .i64 0), .v (.int .i64 0)]), (905, 905, .own [] (Frz w0 [])), (906, 20, Sat.HBo gI (.stringIter s 0))] (by kernel_rfl) rfl rfl rfl (by ((repeat' (first | exact trivial | exact rfl | refine And.intro ?_ ?_)) <;> (try (conv => whnf)) <;> (try simp only [SV.real, SV.r2, SV.r1]))) ?_
  refine sat_loop (Tryz.ok ..) (α := Rd × Mem × Nat × Int) (fun t => ([(0, .yes, .v (.string s)), (5, .yes, .p 900 g13 0 0), (20, .yes, .v (.pointer (some ⟨gI, 0, none⟩)))], stH { t.2.1 with g := g13, gi := [gI], Pi := itP gI s t.2.2.1 } t.1 t.2.2.2))
    (fun t => RdAll t.1 ∧ MemOk t.2.1 t.1 ∧ t.2.2.1 ≤ l.length ∧ runE (l.drop t.2.2.1) t.2.2.1 t.1 = readE l) (fun t => l.length - t.2.2.1) (fun _ => rfl) ?_ ?_
  · refine ⟨(rd0, ⟨g13, none, 0, [], none, 0, [], none, 0, none, 0, w0, [], [gI], itP gI s 0⟩, 0, 0), ⟨rd0_all, ⟨rfl, Got.nil, fun h => absurd rfl h, fun h => absurd rfl h⟩, Nat.zero_le _, by rw [e]; rfl⟩, ?_, ?_, rfl⟩
    · ((repeat' (first | exact trivial | exact rfl | refine And.intro ?_ ?_)) <;> (try (conv => whnf)) <;> (try simp only [SV.real, SV.r2, SV.r1]))
    · ((repeat' (first | exact trivial | exact rfl | refine And.intro ?_ ?_)) <;> (try (conv => whnf)) <;> (try simp only [SV.real, SV.r2, SV.r1]))
  rintro ⟨r, m, k, at0⟩ ⟨ha, hm, hk, hrun⟩
  dsimp only at ha hm hk hrun ⊢
  have hmode := ha.mode
  rcases (by omega : r.mode = 0 ∨ r.mode = 1 ∨ r.mode = 2) with h0 | h0 | h0
  · have eH : stH { m with g := g13, gi := [gI], Pi := itP gI s k } r at0 = btwH { m with g := g13, gi := [gI], Pi := itP gI s k } r 57 false false at0 := by unfold stH; rw [if_pos h0]
    rw [eH]
    unfold btwH rdC
    dsimp only
    repeat' ((conv => whnf); first | refine walk (Tryz.ok ..) ?_ | fail)
    refine Sat.other_next_str 906 (g := gI) (pos := k) (s := s) rfl rfl ⟨fun hlt => ?_, fun hge => ?_⟩
    · obtain ⟨b, hb⟩ : ∃ b, l[k]? = some b := ⟨l[k]'(by omega), List.getElem?_eq_getElem (by omega)⟩
      have hbs : s.data.toList[k]? = some b := by rw [← hl]; exact hb
      have hdrop : l.drop k = b :: l.drop (k + 1) := by
        rw [List.drop_eq_getElem_cons (by omega)]
        congr 1
        exact (List.getElem?_eq_some_iff.1 hb).2
      rw [hdrop, runE_cons] at hrun
      obtain ⟨c, hc⟩ : ∃ c : Nat, c = (Utf8.decode s k).1 := ⟨_, rfl⟩
      obtain ⟨k2, hk2⟩ : ∃ c : Nat, c = k + (Utf8.decode s k).2 := ⟨_, rfl⟩
      rw [← hc, ← hk2]
      have hst : stepE r k (c : Int) = stepE r k (b.toNat : Int) := by
        rcases Nat.lt_or_ge b.toNat 128 with h1 | h1
        · rw [hc, dec_at hbs h1]
        · have := dec_high hbs h1
          exact stepE_high r k (by omega) (by omega)
      rw [← hst] at hrun
      have hk3 : ∀ r', stepE r k (c : Int) = .ok r' → k2 = k + 1 := fun r' hr' => by
        rcases Nat.lt_or_ge b.toNat 128 with h1 | h1
        · rw [hk2, dec_at hbs h1]
        · have := dec_high hbs h1
          exact absurd hr' (stepE_high_no (by omega))
      repeat' ((conv => whnf); first | refine walk (Tryz.ok ..) ?_ | (refine Cnd.mk (fun h => ?_) (fun h => ?_) <;> (first | exact cndT h (by (try dsimp only); omega) | exact cndF h (by (try dsimp only); omega) | (exfalso; simp at h; omega) | simp at h | skip)) | refine side2 ?_ | refine xi _ (And.intro rfl rfl) ?_ | fail)
      (conv => whnf)
      have hE : stepE r k (c : Int) = btwE r k (c : Int) := by unfold stepE; rw [if_pos h0]
      refine called_lay [.p 900 g13 0 0, .v (.int .i32 (c : Int))] (btwH { m with g := g13, gi := [gI], Pi := itP gI s k2 } r 57 false false k) rfl (fun w hw => hw.sub (hsub_of (by kernel_rfl))) (between_called { m with g := g13, gi := [gI], Pi := itP gI s k2 } r k c ha.ok h0 (ha.pc0 h0) ⟨hm.lO, hm.gO, hm.lS, hm.gS⟩ (Int.natCast_nonneg c) ?_)
      cases hs : btwE r k (c : Int) with
      | error e =>
        rw [hE, hs] at hrun
        have hne := stepE_code (hE.trans hs)
        dsimp only at hrun
        intro m' r' nO F op wt hg
        rw [← hrun]
        unfold rdC
        repeat' ((conv => whnf); first | refine walk (Tryz.ok ..) ?_ | (refine Cnd.mk (fun h => ?_) (fun h => ?_) <;> (first | exact cndT h (by (try dsimp only); omega) | exact cndF h (by (try dsimp only); omega) | (exfalso; simp at h; omega) | simp at h | skip)) | refine side2 ?_ | refine sideL2 ?_ | refine xi _ (And.intro rfl rfl) ?_ | fail)
        exact done_fuse (v := .slice none 0 0) rfl rfl [] (fun w _ => nest_nil) rfl
      | ok r' =>
        rw [hE, hs] at hrun
        have hk4 := hk3 r' (hE.trans hs)
        have ha' := stepE_all ha (hE.trans hs)
        dsimp only at hrun
        rintro ⟨g', AO', cO', xsO', AS', cS', xsS', AE', cE', AP', cP', w0', gs', gi', Pi'⟩ hm' ⟨hg, hgi, hPi⟩
        dsimp only at hg hgi hPi
        have hg := hg.symm
        subst hg hgi hPi
        repeat' ((conv => whnf); first | refine walk (Tryz.ok ..) ?_ | (refine Cnd.mk (fun h => ?_) (fun h => ?_) <;> (first | exact cndT h (by (try dsimp only); omega) | exact cndF h (by (try dsimp only); omega) | (exfalso; simp at h; omega) | simp at h | skip)) | fail)
        refine ⟨(r', ⟨g13, AO', cO', xsO', AS', cS', xsS', AE', cE', AP', cP', w0', gs', [gI], itP gI s k2⟩, k + 1, k), ⟨⟨ha', ⟨hm'.lO, hm'.gO, hm'.lS, hm'.gS⟩, by show k + 1 ≤ l.length; omega, hrun⟩, by show l.length - (k + 1) < l.length - k; omega⟩, by ((repeat' (first | exact trivial | exact rfl | refine And.intro ?_ ?_)) <;> (try (conv => whnf)) <;> (try simp only [SV.real, SV.r2, SV.r1])), ?_, rfl⟩
        dsimp only
        rw [hk4]
        exact stH_refl _ _ _
    · obtain rfl : k = l.length := by omega
      rw [List.drop_length] at hrun
      unfold runE finE at hrun
      rw [if_neg (by omega), if_neg (by omega)] at hrun
      rw [← hrun]
      repeat' ((conv => whnf); first | refine walk (Tryz.ok ..) ?_ | (refine Cnd.mk (fun h => ?_) (fun h => ?_) <;> (first | exact cndT h (by (try dsimp only); omega) | exact cndF h (by (try dsimp only); omega) | (exfalso; simp at h; omega) | simp at h | skip)) | refine side2 ?_ | refine xi _ (And.intro rfl rfl) ?_ | fail)
      exact done_fuse (v := .slice (adr m.AO) r.out.length m.cO) rfl rfl [905, 901] (fun w hw => nest_fuse [905, 901] 901 hw rfl rfl (hm.gO.fuse ns_stays [905, 901] 905 hw rfl rfl)) rfl
  · have eH : stH { m with g := g13, gi := [gI], Pi := itP gI s k } r at0 = insH { m with g := g13, gi := [gI], Pi := itP gI s k } r 79 true false at0 := by unfold stH; rw [if_neg (by omega), if_pos h0]
    rw [eH]
    unfold insH rdC
    dsimp only
    repeat' ((conv => whnf); first | refine walk (Tryz.ok ..) ?_ | fail)
    refine Sat.other_next_str 906 (g := gI) (pos := k) (s := s) rfl rfl ⟨fun hlt => ?_, fun hge => ?_⟩
    · obtain ⟨b, hb⟩ : ∃ b, l[k]? = some b := ⟨l[k]'(by omega), List.getElem?_eq_getElem (by omega)⟩
      have hbs : s.data.toList[k]? = some b := by rw [← hl]; exact hb
      have hdrop : l.drop k = b :: l.drop (k + 1) := by
        rw [List.drop_eq_getElem_cons (by omega)]
        congr 1
        exact (List.getElem?_eq_some_iff.1 hb).2
      rw [hdrop, runE_cons] at hrun
      obtain ⟨c, hc⟩ : ∃ c : Nat, c = (Utf8.decode s k).1 := ⟨_, rfl⟩
      obtain ⟨k2, hk2⟩ : ∃ c : Nat, c = k + (Utf8.decode s k).2 := ⟨_, rfl⟩
      rw [← hc, ← hk2]
      have hst : stepE r k (c : Int) = stepE r k (b.toNat : Int) := by
        rcases Nat.lt_or_ge b.toNat 128 with h1 | h1
        · rw [hc, dec_at hbs h1]
        · have := dec_high hbs h1
          exact stepE_high r k (by omega) (by omega)
      rw [← hst] at hrun
      have hk3 : ∀ r', stepE r k (c : Int) = .ok r' → k2 = k + 1 := fun r' hr' => by
        rcases Nat.lt_or_ge b.toNat 128 with h1 | h1
        · rw [hk2, dec_at hbs h1]
        · have := dec_high hbs h1
          exact absurd hr' (stepE_high_no (by omega))
      repeat' ((conv => whnf); first | refine walk (Tryz.ok ..) ?_ | (refine Cnd.mk (fun h => ?_) (fun h => ?_) <;> (first | exact cndT h (by (try dsimp only); omega) | exact cndF h (by (try dsimp only); omega) | (exfalso; simp at h; omega) | simp at h | skip)) | refine side2 ?_ | refine xi _ (And.intro rfl rfl) ?_ | fail)
      (conv => whnf)
      have hE : stepE r k (c : Int) = insE r k (c : Int) := by unfold stepE; rw [if_neg (by omega), if_pos h0]
      refine called_lay [.p 900 g13 0 0, .v (.int .i32 (c : Int))] (insH { m with g := g13, gi := [gI], Pi := itP gI s k2 } r 79 true false k) rfl (fun w hw => hw.sub (hsub_of (by kernel_rfl))) (step_ins { m with g := g13, gi := [gI], Pi := itP gI s k2 } r k c ha.ok h0  ⟨hm.lO, hm.gO, hm.lS, hm.gS⟩ (Int.natCast_nonneg c) ?_)
      cases hs : insE r k (c : Int) with
      | error e =>
        rw [hE, hs] at hrun
        have hne := stepE_code (hE.trans hs)
        dsimp only at hrun
        intro m' r' nO F op wt hg
        rw [← hrun]
        unfold rdC
        repeat' ((conv => whnf); first | refine walk (Tryz.ok ..) ?_ | (refine Cnd.mk (fun h => ?_) (fun h => ?_) <;> (first | exact cndT h (by (try dsimp only); omega) | exact cndF h (by (try dsimp only); omega) | (exfalso; simp at h; omega) | simp at h | skip)) | refine side2 ?_ | refine sideL2 ?_ | refine xi _ (And.intro rfl rfl) ?_ | fail)
        exact done_fuse (v := .slice none 0 0) rfl rfl [] (fun w _ => nest_nil) rfl
      | ok r' =>
        rw [hE, hs] at hrun
        have hk4 := hk3 r' (hE.trans hs)
        have ha' := stepE_all ha (hE.trans hs)
        dsimp only at hrun
        rintro ⟨g', AO', cO', xsO', AS', cS', xsS', AE', cE', AP', cP', w0', gs', gi', Pi'⟩ hm' ⟨hg, hgi, hPi⟩
        dsimp only at hg hgi hPi
        have hg := hg.symm
        subst hg hgi hPi
        repeat' ((conv => whnf); first | refine walk (Tryz.ok ..) ?_ | (refine Cnd.mk (fun h => ?_) (fun h => ?_) <;> (first | exact cndT h (by (try dsimp only); omega) | exact cndF h (by (try dsimp only); omega) | (exfalso; simp at h; omega) | simp at h | skip)) | fail)
        refine ⟨(r', ⟨g13, AO', cO', xsO', AS', cS', xsS', AE', cE', AP', cP', w0', gs', [gI], itP gI s k2⟩, k + 1, k), ⟨⟨ha', ⟨hm'.lO, hm'.gO, hm'.lS, hm'.gS⟩, by show k + 1 ≤ l.length; omega, hrun⟩, by show l.length - (k + 1) < l.length - k; omega⟩, by ((repeat' (first | exact trivial | exact rfl | refine And.intro ?_ ?_)) <;> (try (conv => whnf)) <;> (try simp only [SV.real, SV.r2, SV.r1])), ?_, rfl⟩
        dsimp only
        rw [hk4]
        exact stH_refl _ _ _
    · obtain rfl : k = l.length := by omega
      rw [List.drop_length] at hrun
      unfold runE finE at hrun
      rw [if_neg (by omega), if_pos h0, ← hsz] at hrun
      rw [← hrun]
      repeat' ((conv => whnf); first | refine walk (Tryz.ok ..) ?_ | (refine Cnd.mk (fun h => ?_) (fun h => ?_) <;> (first | exact cndT h (by (try dsimp only); omega) | exact cndF h (by (try dsimp only); omega) | (exfalso; simp at h; omega) | simp at h | skip)) | refine side2 ?_ | refine xi _ (And.intro rfl rfl) ?_ | fail)
      exact done_fuse (v := .slice none 0 0) rfl rfl [] (fun w _ => nest_nil) rfl
  · have eH : stH { m with g := g13, gi := [gI], Pi := itP gI s k } r at0 = insH { m with g := g13, gi := [gI], Pi := itP gI s k } r 94 true true at0 := by unfold stH; rw [if_neg (by omega), if_neg (by omega)]
    rw [eH]
    unfold insH rdC
    dsimp only
    repeat' ((conv => whnf); first | refine walk (Tryz.ok ..) ?_ | fail)
    refine Sat.other_next_str 906 (g := gI) (pos := k) (s := s) rfl rfl ⟨fun hlt => ?_, fun hge => ?_⟩
    · obtain ⟨b, hb⟩ : ∃ b, l[k]? = some b := ⟨l[k]'(by omega), List.getElem?_eq_getElem (by omega)⟩
      have hbs : s.data.toList[k]? = some b := by rw [← hl]; exact hb
      have hdrop : l.drop k = b :: l.drop (k + 1) := by
        rw [List.drop_eq_getElem_cons (by omega)]
        congr 1
        exact (List.getElem?_eq_some_iff.1 hb).2
      rw [hdrop, runE_cons] at hrun
      obtain ⟨c, hc⟩ : ∃ c : Nat, c = (Utf8.decode s k).1 := ⟨_, rfl⟩
      obtain ⟨k2, hk2⟩ : ∃ c : Nat, c = k + (Utf8.decode s k).2 := ⟨_, rfl⟩
      rw [← hc, ← hk2]
      have hst : stepE r k (c : Int) = stepE r k (b.toNat : Int) := by
        rcases Nat.lt_or_ge b.toNat 128 with h1 | h1
        · rw [hc, dec_at hbs h1]
        · have := dec_high hbs h1
          exact stepE_high r k (by omega) (by omega)
      rw [← hst] at hrun
      have hk3 : ∀ r', stepE r k (c : Int) = .ok r' → k2 = k + 1 := fun r' hr' => by
        rcases Nat.lt_or_ge b.toNat 128 with h1 | h1
        · rw [hk2, dec_at hbs h1]
        · have := dec_high hbs h1
          exact absurd hr' (stepE_high_no (by omega))
      repeat' ((conv => whnf); first | refine walk (Tryz.ok ..) ?_ | (refine Cnd.mk (fun h => ?_) (fun h => ?_) <;> (first | exact cndT h (by (try dsimp only); omega) | exact cndF h (by (try dsimp only); omega) | (exfalso; simp at h; omega) | simp at h | skip)) | refine side2 ?_ | refine xi _ (And.intro rfl rfl) ?_ | fail)
      (conv => whnf)
      have hE : stepE r k (c : Int) = relE r k (c : Int) := by unfold stepE; rw [if_neg (by omega), if_neg (by omega)]
      refine called_lay [.p 900 g13 0 0, .v (.int .i32 (c : Int))] (insH { m with g := g13, gi := [gI], Pi := itP gI s k2 } r 94 true true k) rfl (fun w hw => hw.sub (hsub_of (by kernel_rfl))) (released_called { m with g := g13, gi := [gI], Pi := itP gI s k2 } r k c ha.ok h0  ⟨hm.lO, hm.gO, hm.lS, hm.gS⟩ (Int.natCast_nonneg c) ?_)
      cases hs : relE r k (c : Int) with
      | error e =>
        rw [hE, hs] at hrun
        have hne := stepE_code (hE.trans hs)
        dsimp only at hrun
        intro m' r' nO F op wt hg
        rw [← hrun]
        unfold rdC
        repeat' ((conv => whnf); first | refine walk (Tryz.ok ..) ?_ | (refine Cnd.mk (fun h => ?_) (fun h => ?_) <;> (first | exact cndT h (by (try dsimp only); omega) | exact cndF h (by (try dsimp only); omega) | (exfalso; simp at h; omega) | simp at h | skip)) | refine side2 ?_ | refine sideL2 ?_ | refine xi _ (And.intro rfl rfl) ?_ | fail)
        exact done_fuse (v := .slice none 0 0) rfl rfl [] (fun w _ => nest_nil) rfl
      | ok r' =>
        rw [hE, hs] at hrun
        have hk4 := hk3 r' (hE.trans hs)
        have ha' := stepE_all ha (hE.trans hs)
        dsimp only at hrun
        rintro ⟨g', AO', cO', xsO', AS', cS', xsS', AE', cE', AP', cP', w0', gs', gi', Pi'⟩ hm' ⟨hg, hgi, hPi⟩
        dsimp only at hg hgi hPi
        have hg := hg.symm
        subst hg hgi hPi
        repeat' ((conv => whnf); first | refine walk (Tryz.ok ..) ?_ | (refine Cnd.mk (fun h => ?_) (fun h => ?_) <;> (first | exact cndT h (by (try dsimp only); omega) | exact cndF h (by (try dsimp only); omega) | (exfalso; simp at h; omega) | simp at h | skip)) | fail)
        refine ⟨(r', ⟨g13, AO', cO', xsO', AS', cS', xsS', AE', cE', AP', cP', w0', gs', [gI], itP gI s k2⟩, k + 1, k), ⟨⟨ha', ⟨hm'.lO, hm'.gO, hm'.lS, hm'.gS⟩, by show k + 1 ≤ l.length; omega, hrun⟩, by show l.length - (k + 1) < l.length - k; omega⟩, by ((repeat' (first | exact trivial | exact rfl | refine And.intro ?_ ?_)) <;> (try (conv => whnf)) <;> (try simp only [SV.real, SV.r2, SV.r1])), ?_, rfl⟩
        dsimp only
        rw [hk4]
        exact stH_refl _ _ _
    · obtain rfl : k = l.length := by omega
      rw [List.drop_length] at hrun
      unfold runE finE at hrun
      rw [if_pos h0] at hrun
      rw [← hrun]
      repeat' ((conv => whnf); first | refine walk (Tryz.ok ..) ?_ | (refine Cnd.mk (fun h => ?_) (fun h => ?_) <;> (first | exact cndT h (by (try dsimp only); omega) | exact cndF h (by (try dsimp only); omega) | (exfalso; simp at h; omega) | simp at h | skip)) | refine side2 ?_ | refine sideL2 ?_ | refine xi _ (And.intro rfl rfl) ?_ | fail)
      exact done_fuse (v := .slice none 0 0) rfl rfl [] (fun w _ => nest_nil) rfl
end Go.Proofs.YtdohcglpcgahaaaGreatDoor
