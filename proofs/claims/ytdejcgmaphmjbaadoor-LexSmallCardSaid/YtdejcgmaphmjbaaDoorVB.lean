/-
  The walk of the reference's Read.
-/
import Derived.Test.YtdejcgmaphmjbaaDoorVA
set_option linter.unusedSimpArgs false
set_option linter.unusedVariables false
namespace Go.Proofs.YtdejcgmaphmjbaaDoor
open Go Sat Go.RowKit Go.PlainAid
set_option maxRecDepth 100000 in
set_option maxHeartbeats 16000000 in
theorem rRead_any (s : ByteArray) (a : Ans) (ha : readE s.data.toList = a) (w : World) :
    Calls Tryd.prog 18 #[.string s] w (Gives (fun v => .tuple #[v, .int .i64 a.2.1, .int .i64 a.2.2]) (fun w B v => NL w B v a.1) w) := by
  refine calls_sat (cx := Tryd.cx 77 [18] [] [] w) (Tryd.ok ..) Tryd.func18 rfl [.v (.string s)] rfl (by show 1 ≤ 77; omega) [] (holds_nil (Nat.le_refl _)) ?_
  have hsz : s.size = s.data.toList.length := rfl
  by_cases hbig : 65536 < s.size
  · have e1 : a = ([], 0, 3) := by rw [← ha]; unfold readE; rw [if_pos (by omega)]
    subst e1
    repeat' ((conv => whnf); first | refine walk (Tryd.ok ..) ?_ | (refine Cnd.mk (fun h => ?_) (fun h => ?_) <;> (first | exact cndT h (by (try dsimp only); omega) | exact cndF h (by (try dsimp only); omega) | (exfalso; simp at h; omega) | simp at h | skip)) | refine kp ?_ ?_ | refine tw ?_ ?_ | refine appnil rfl ?_ | refine rawnil rfl ?_ | exact trivial | refine side2 ?_ | refine sideL2 ?_ | refine Or.inr ?_ | refine sat_drawH (Tryd.ok ..) (by kernel_rfl) ?_ | refine xi _ (And.intro rfl rfl) ?_ | refine xi _ (fun _ => And.intro rfl rfl) ?_ | refine xi _ rfl ?_)
    exact done_fuse (v := .slice none 0 0) rfl rfl [] (fun w _ => nest_nil) rfl
  rw [readE] at ha
  rw [if_neg (by omega)] at ha
  repeat' ((conv => whnf); first | refine walk (Tryd.ok ..) ?_ | (refine Cnd.mk (fun h => ?_) (fun h => ?_) <;> (first | exact cndT h (by (try dsimp only); omega) | exact cndF h (by (try dsimp only); omega) | (exfalso; simp at h; omega) | simp at h | skip)) | refine kp ?_ ?_ | refine tw ?_ ?_ | refine appnil rfl ?_ | refine rawnil rfl ?_ | exact trivial | refine side2 ?_ | refine sideL2 ?_ | refine Or.inr ?_ | refine sat_drawH (Tryd.ok ..) (by kernel_rfl) ?_ | refine xi _ (And.intro rfl rfl) ?_ | refine xi _ (fun _ => And.intro rfl rfl) ?_ | refine xi _ rfl ?_)
  refine sat_fuse 77 [] rfl fun w0 hw0 => ?_
  refine sat_loop (Tryd.ok ..) (α := Nat × List Segm × Rd × Option (Nat × Nat) × Nat × List Value × World × List Nat) (fun t => ([(0, .yes, .v (.string s)), (5, .yes, .o 74 t.2.2.2.1 t.2.1.length t.2.2.2.2.1), (6, .yes, .v (.int .i64 t.1))], [(74, .row t.2.2.2.1 27 1 t.2.1.length t.2.2.2.2.1 t.2.2.2.2.2.1), (77, .own t.2.2.2.2.2.2.2 (Frz t.2.2.2.2.2.2.1 t.2.2.2.2.2.2.2))]))
    (fun t => t.1 ≤ s.size ∧ (t.2.2.1.mode = 0 ∧ t.2.2.1.out = t.2.1) ∧ (t.2.1.length ≤ 5000 ∧ t.2.2.2.2.2.1.length = t.2.1.length) ∧ Got NS t.2.2.2.2.2.2.1 t.2.2.2.2.2.2.2 t.2.2.2.2.2.1 t.2.1 ∧ runE (s.data.toList.drop t.1) t.1 t.2.2.1 = a) (fun t => s.size - t.1) (fun _ => rfl) ?_ ?_
  · refine ⟨(0, [], rd0, none, 0, [], w0, []), ⟨Nat.zero_le _, ⟨rfl, rfl⟩, ⟨Nat.zero_le _, rfl⟩, Got.nil, ha⟩, ?_, ?_, rfl⟩
    all_goals ((repeat' (first | exact trivial | exact rfl | refine And.intro ?_ ?_)) <;> (try (conv => whnf)) <;> (try simp only [SV.real, SV.r2, SV.r1]))
  rintro ⟨k0, o, r, A5, c5, xs5, w1, gs⟩ ⟨hk0, ⟨hm, ho⟩, ⟨hol, hxl⟩, hgot, hrun0⟩
  dsimp only at hk0 hm ho hol hxl hgot hrun0 ⊢
  repeat' ((conv => whnf); first | refine walk (Tryd.ok ..) ?_ | (refine Cnd.mk (fun h => ?_) (fun h => ?_) <;> (first | exact cndT h (by (try dsimp only); omega) | exact cndF h (by (try dsimp only); omega) | (exfalso; simp at h; omega) | simp at h | skip)) | refine kp ?_ ?_ | refine tw ?_ ?_ | refine appnil rfl ?_ | refine rawnil rfl ?_ | exact trivial | refine side2 ?_ | refine sideL2 ?_ | refine Or.inr ?_ | refine sat_drawH (Tryd.ok ..) (by kernel_rfl) ?_ | refine xi _ (And.intro rfl rfl) ?_ | refine xi _ (fun _ => And.intro rfl rfl) ?_ | refine xi _ rfl ?_)
  refine sat_loop (Tryd.ok ..) (α := Nat) (fun k => ([(0, .yes, .v (.string s)), (5, .yes, .o 74 A5 o.length c5), (6, .yes, .v (.int .i64 k))], [(74, .row A5 27 1 o.length c5 xs5), (77, .own gs (Frz w1 gs))]))
    (fun k => k0 ≤ k ∧ k ≤ s.size ∧ runE (s.data.toList.drop k) k r = a) (fun k => s.size - k) (fun _ => rfl) ?_ ?_
  · refine ⟨k0, ⟨Nat.le_refl _, hk0, hrun0⟩, ?_, ?_, rfl⟩
    all_goals ((repeat' (first | exact trivial | exact rfl | refine And.intro ?_ ?_)) <;> (try (conv => whnf)) <;> (try simp only [SV.real, SV.r2, SV.r1]))
  rintro k ⟨hkk, hk, hrun⟩
  by_cases hk1 : k < s.size
  case neg =>
    rw [end_step hm (by omega), ho] at hrun
    subst hrun
    repeat' ((conv => whnf); first | refine walk (Tryd.ok ..) ?_ | (refine Cnd.mk (fun h => ?_) (fun h => ?_) <;> (first | exact cndT h (by (try dsimp only); omega) | exact cndF h (by (try dsimp only); omega) | (exfalso; simp at h; omega) | simp at h | skip)) | refine kp ?_ ?_ | refine tw ?_ ?_ | refine appnil rfl ?_ | refine rawnil rfl ?_ | exact trivial | refine side2 ?_ | refine sideL2 ?_ | refine Or.inr ?_ | refine sat_drawH (Tryd.ok ..) (by kernel_rfl) ?_ | refine xi _ (And.intro rfl rfl) ?_ | refine xi _ (fun _ => And.intro rfl rfl) ?_ | refine xi _ rfl ?_)
    exact done_fuse (v := .slice (adr A5) o.length c5) rfl rfl [77, 74] (fun w hw => nest_fuse [77, 74] 74 hw rfl rfl (hgot.fuse ns_stays [77, 74] 77 hw rfl rfl)) rfl
  obtain ⟨c, hc⟩ : ∃ c, s.data.toList[k]? = some c := ⟨_, List.getElem?_eq_getElem hk1⟩
  have hbt : bt s (k : Int).toNat = (c.toNat : Int) := bt_at hc
  have hbt2 : bt s k = (c.toNat : Int) := bt_at hc
  by_cases hb : c.toNat = 10 ∨ c.toNat = 13 ∨ c.toNat = 32
  · rw [blank_step hm hc hb] at hrun
    repeat' ((conv => whnf); first | refine walk (Tryd.ok ..) ?_ | (refine Cnd.mk (fun h => ?_) (fun h => ?_) <;> (first | exact cndT h (by (try dsimp only); omega) | exact cndF h (by (try dsimp only); omega) | (exfalso; simp at h; omega) | simp at h | skip)) | refine kp ?_ ?_ | refine tw ?_ ?_ | refine appnil rfl ?_ | refine rawnil rfl ?_ | exact trivial | refine side2 ?_ | refine sideL2 ?_ | refine Or.inr ?_ | refine sat_drawH (Tryd.ok ..) (by kernel_rfl) ?_ | refine xi _ (And.intro rfl rfl) ?_ | refine xi _ (fun _ => And.intro rfl rfl) ?_ | refine xi _ rfl ?_)
    refine ⟨k + 1, ⟨⟨by omega, hk1, hrun⟩, by omega⟩, ?_, ?_, rfl⟩
    all_goals ((repeat' (first | exact trivial | exact rfl | refine And.intro ?_ ?_)) <;> (try (conv => whnf)) <;> (try simp only [SV.real, SV.r2, SV.r1]))
  have hb2 : c.toNat ≠ 10 ∧ c.toNat ≠ 13 ∧ c.toNat ≠ 32 := by omega
  repeat' ((conv => whnf); first | refine walk (Tryd.ok ..) ?_ | (refine Cnd.mk (fun h => ?_) (fun h => ?_) <;> (first | exact cndT h (by (try dsimp only); omega) | exact cndF h (by (try dsimp only); omega) | (exfalso; simp at h; omega) | simp at h | skip)) | refine kp ?_ ?_ | refine tw ?_ ?_ | refine appnil rfl ?_ | refine rawnil rfl ?_ | exact trivial | refine side2 ?_ | refine sideL2 ?_ | refine Or.inr ?_ | refine sat_drawH (Tryd.ok ..) (by kernel_rfl) ?_ | refine xi _ (And.intro rfl rfl) ?_ | refine xi _ (fun _ => And.intro rfl rfl) ?_ | refine xi _ rfl ?_)
  · rw [many_step hm (by rw [ho]; omega) hc hb2] at hrun
    subst hrun
    exact done_fuse (v := .slice none 0 0) rfl rfl [] (fun w _ => nest_nil) rfl
  obtain ⟨⟨hle, hlt⟩, hbad, hok⟩ := seg_step hm (by rw [ho]; omega) hc hb2
  rw [hrun] at hbad hok
  obtain ⟨te, hte⟩ : ∃ te, te = k + endQ (s.data.toList.drop k) := ⟨_, rfl⟩
  rw [← hte] at hle hlt hbad hok
  obtain ⟨S, hS⟩ : ∃ S, S = segQ s.data.toList k te := ⟨_, rfl⟩
  have hR1 : (segR s.data.toList k te).1 = S.1 := by rw [hS]; rfl
  have hR2 : (segR s.data.toList k te).2 = if te = s.data.toList.length then worseF S.2 ⟨te, 5, 42⟩ else S.2 := by rw [hS]; rfl
  rw [hR1, hR2] at hok
  rw [hR2] at hbad
  obtain ⟨F, hF⟩ : ∃ F, F = if te = s.data.toList.length then worseF S.2 ⟨te, 5, 42⟩ else S.2 := ⟨_, rfl⟩
  rw [← hF] at hok hbad
  (conv => whnf)
  repeat' ((conv => whnf); first | refine walk (Tryd.ok ..) ?_ | (refine Cnd.mk (fun h => ?_) (fun h => ?_) <;> (first | exact cndT h (by (try dsimp only); omega) | exact cndF h (by (try dsimp only); omega) | (exfalso; simp at h; omega) | simp at h | skip)) | refine kp ?_ ?_ | refine tw ?_ ?_ | refine appnil rfl ?_ | refine rawnil rfl ?_ | exact trivial | refine side2 ?_ | refine sideL2 ?_ | refine Or.inr ?_ | refine sat_drawH (Tryd.ok ..) (by kernel_rfl) ?_ | refine xi _ (And.intro rfl rfl) ?_ | refine xi _ (fun _ => And.intro rfl rfl) ?_ | refine xi _ rfl ?_)
  (conv => whnf)
  refine called_pure (.v (.int .i64 (te : Int))) rfl (fun w' => by rw [hte]; exact end_any s k hk (by omega) w') ?_
  repeat' ((conv => whnf); first | refine walk (Tryd.ok ..) ?_ | (refine Cnd.mk (fun h => ?_) (fun h => ?_) <;> (first | exact cndT h (by (try dsimp only); omega) | exact cndF h (by (try dsimp only); omega) | (exfalso; simp at h; omega) | simp at h | skip)) | refine kp ?_ ?_ | refine tw ?_ ?_ | refine appnil rfl ?_ | refine rawnil rfl ?_ | exact trivial | refine side2 ?_ | refine sideL2 ?_ | refine Or.inr ?_ | refine sat_drawH (Tryd.ok ..) (by kernel_rfl) ?_ | refine xi _ (And.intro rfl rfl) ?_ | refine xi _ (fun _ => And.intro rfl rfl) ?_ | refine xi _ rfl ?_)
  (conv => whnf)
  refine called_nestR 901 902 (mk := fun v => .tuple #[v, fV S.2]) (R := NE) (l := S.1) (T := 25) (fun A cap => .t [.o 901 A S.1.length cap, .a (fC S.2)]) (fun _ _ => rfl) (fun w' hh => by rw [hS]; exact segment_any s k te (by omega) hle (by omega) w') ?_
  intro w2 A2 c2 xs2 gs2 hx2 hg2
  repeat' ((conv => whnf); first | refine walk (Tryd.ok ..) ?_ | (refine Cnd.mk (fun h => ?_) (fun h => ?_) <;> (first | exact cndT h (by (try dsimp only); omega) | exact cndF h (by (try dsimp only); omega) | (exfalso; simp at h; omega) | simp at h | skip)) | refine kp ?_ ?_ | refine tw ?_ ?_ | refine appnil rfl ?_ | refine rawnil rfl ?_ | exact trivial | refine side2 ?_ | refine sideL2 ?_ | refine Or.inr ?_ | refine sat_drawH (Tryd.ok ..) (by kernel_rfl) ?_ | refine xi _ (And.intro rfl rfl) ?_ | refine xi _ (fun _ => And.intro rfl rfl) ?_ | refine xi _ rfl ?_)
  (conv => whnf)
  intro g9 hg9
  repeat' ((conv => whnf); first | refine walk (Tryd.ok ..) ?_ | (refine Cnd.mk (fun h => ?_) (fun h => ?_) <;> (first | exact cndT h (by (try dsimp only); omega) | exact cndF h (by (try dsimp only); omega) | (exfalso; simp at h; omega) | simp at h | skip)) | refine kp ?_ ?_ | refine tw ?_ ?_ | refine appnil rfl ?_ | refine rawnil rfl ?_ | exact trivial | refine side2 ?_ | refine sideL2 ?_ | refine Or.inr ?_ | refine sat_drawH (Tryd.ok ..) (by kernel_rfl) ?_ | refine xi _ (And.intro rfl rfl) ?_ | refine xi _ (fun _ => And.intro rfl rfl) ?_ | refine xi _ rfl ?_)
  · have e1 : F = worseF S.2 ⟨te, 5, 42⟩ := by rw [hF, if_pos (by omega)]
    (conv => whnf)
    refine called_pure (.a (fC (worseF S.2 ⟨(te : Int), 5, 42⟩))) rfl (fun w' => worse_any S.2 ⟨(te : Int), 5, 42⟩ w') ?_
    rw [← e1]
    repeat' ((conv => whnf); first | refine walk (Tryd.ok ..) ?_ | (refine Cnd.mk (fun h => ?_) (fun h => ?_) <;> (first | exact cndT h (by (try dsimp only); omega) | exact cndF h (by (try dsimp only); omega) | (exfalso; simp at h; omega) | simp at h | skip)) | refine kp ?_ ?_ | refine tw ?_ ?_ | refine appnil rfl ?_ | refine rawnil rfl ?_ | exact trivial | refine side2 ?_ | refine sideL2 ?_ | refine Or.inr ?_ | refine sat_drawH (Tryd.ok ..) (by kernel_rfl) ?_ | refine xi _ (And.intro rfl rfl) ?_ | refine xi _ (fun _ => And.intro rfl rfl) ?_ | refine xi _ rfl ?_)
    obtain rfl := hbad (by assumption)
    exact done_fuse (v := .slice none 0 0) rfl rfl [] (fun w _ => nest_nil) rfl
  · have e1 : F = S.2 := by rw [hF, if_neg (by omega)]
    rw [e1] at hbad
    obtain rfl := hbad (by assumption)
    exact done_fuse (v := .slice none 0 0) rfl rfl [] (fun w _ => nest_nil) rfl
  have e1 : F = S.2 := by rw [hF, if_neg (by omega)]
  rw [e1] at hok
  obtain ⟨hlt2, r', hm', ho', hrun'⟩ := hok (by assumption)
  repeat' ((conv => whnf); first | refine walk (Tryd.ok ..) ?_ | (refine Cnd.mk (fun h => ?_) (fun h => ?_) <;> (first | exact cndT h (by (try dsimp only); omega) | exact cndF h (by (try dsimp only); omega) | (exfalso; simp at h; omega) | simp at h | skip)) | refine kp ?_ ?_ | refine tw ?_ ?_ | refine appnil rfl ?_ | refine rawnil rfl ?_ | exact trivial | refine side2 ?_ | refine sideL2 ?_ | refine Or.inr ?_ | refine sat_drawH (Tryd.ok ..) (by kernel_rfl) ?_ | refine xi _ (And.intro rfl rfl) ?_ | refine xi _ (fun _ => And.intro rfl rfl) ?_ | refine xi _ rfl ?_)
  (conv => whnf)
  intro g73 hg73
  repeat' ((conv => whnf); first | refine walk (Tryd.ok ..) ?_ | (refine Cnd.mk (fun h => ?_) (fun h => ?_) <;> (first | exact cndT h (by (try dsimp only); omega) | exact cndF h (by (try dsimp only); omega) | (exfalso; simp at h; omega) | simp at h | skip)) | refine kp ?_ ?_ | refine tw ?_ ?_ | refine appnil rfl ?_ | refine rawnil rfl ?_ | exact trivial | refine side2 ?_ | refine sideL2 ?_ | refine Or.inr ?_ | refine sat_drawH (Tryd.ok ..) (by kernel_rfl) ?_ | refine xi _ (And.intro rfl rfl) ?_ | refine xi _ (fun _ => And.intro rfl rfl) ?_ | refine xi _ rfl ?_)
  (conv => whnf)
  intro A74 c74
  repeat' ((conv => whnf); first | refine walk (Tryd.ok ..) ?_ | (refine Cnd.mk (fun h => ?_) (fun h => ?_) <;> (first | exact cndT h (by (try dsimp only); omega) | exact cndF h (by (try dsimp only); omega) | (exfalso; simp at h; omega) | simp at h | skip)) | refine kp ?_ ?_ | refine tw ?_ ?_ | refine appnil rfl ?_ | refine rawnil rfl ?_ | exact trivial | refine side2 ?_ | refine sideL2 ?_ | refine Or.inr ?_ | refine sat_drawH (Tryd.ok ..) (by kernel_rfl) ?_ | refine xi _ (And.intro rfl rfl) ?_ | refine xi _ (fun _ => And.intro rfl rfl) ?_ | refine xi _ rfl ?_)
  refine sat_fuse 77 [77, 901, 902] rfl fun w4 hw4 => ?_
  have hgot' := (hgot.fuse ns_stays [77, 901, 902] 77 hw4 rfl rfl).ext hxl (nest_fuse [77, 901, 902] 901 hw4 rfl rfl (hg2.fuse ne_stays [77, 901, 902] 902 hw4 rfl rfl))
  refine sat_ops (Tryd.ok ..) ?_
  repeat' ((conv => whnf); first | refine walk (Tryd.ok ..) ?_ | (refine Cnd.mk (fun h => ?_) (fun h => ?_) <;> (first | exact cndT h (by (try dsimp only); omega) | exact cndF h (by (try dsimp only); omega) | (exfalso; simp at h; omega) | simp at h | skip)) | refine kp ?_ ?_ | refine tw ?_ ?_ | refine appnil rfl ?_ | refine rawnil rfl ?_ | exact trivial | refine side2 ?_ | refine sideL2 ?_ | refine Or.inr ?_ | refine sat_drawH (Tryd.ok ..) (by kernel_rfl) ?_ | refine xi _ (And.intro rfl rfl) ?_ | refine xi _ (fun _ => And.intro rfl rfl) ?_ | refine xi _ rfl ?_)
  refine ⟨(te + 1, o ++ [S.1], r', A74, c74, _, w4, _), ⟨⟨by omega, ⟨hm', by rw [ho', ho]⟩, ⟨by show (o ++ [S.1]).length ≤ 5000; rw [List.length_append, List.length_singleton]; omega, ?_⟩, hgot', hrun'.symm⟩, by show s.size - (te + 1) < s.size - k0; omega⟩, ?_, ?_, rfl⟩
  · show (xs5 ++ [_]).length = (o ++ [S.1]).length
    rw [List.length_append, List.length_append, hxl]
    rfl
  · ((repeat' (first | exact trivial | exact rfl | refine And.intro ?_ ?_)) <;> (try (conv => whnf)) <;> (try simp only [SV.real, SV.r2, SV.r1]))
    exact congrArg (fun n => Value.slice (adr A74) n c74) (by rw [List.length_append]; rfl)
  · ((repeat' (first | exact trivial | exact rfl | refine And.intro ?_ ?_)) <;> (try (conv => whnf)) <;> (try simp only [SV.real, SV.r2, SV.r1]))
    rw [List.length_append]
    rfl
end Go.Proofs.YtdejcgmaphmjbaaDoor
