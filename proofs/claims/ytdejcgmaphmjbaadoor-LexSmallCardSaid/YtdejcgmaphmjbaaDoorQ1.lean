/-
  Trim at one byte, some string; Repeat with a string that is known by its size alone; writes at nests.
-/
import Derived.Test.YtdejcgmaphmjbaaDoorVD
import Derived.Test.YtdejcgmaphmjbaaDoorV6
set_option linter.unusedSimpArgs false
set_option linter.unusedVariables false
namespace Go.Proofs.YtdejcgmaphmjbaaDoor
open Go Sat Go.RowKit Go.PlainAid
theorem done_some {cx : Cx} {v : SV} {H : Heap} {α : Type} {I : α → Prop} {r : α → Value} (hn : cx.n0 = cx.W.heap.size) (hM : cx.M = []) (x : α) (hx : I x) (h : v.real = r x) :
    Done cx (fun e w' => ∃ x, I x ∧ e = .returned (r x) ∧ Below cx.W.heap.size cx.W w') v H :=
  ⟨fun w hw => ⟨x, hx, by rw [h], below_of hn hM hw⟩⟩
def SmallStr (s : ByteArray) : Prop := s.size ≤ 100000
def trimL : Nat → Int → ByteArray → ByteArray
  | 0, _, t => t
  | n + 1, c, t => if 0 < t.size ∧ bt t 0 = c then trimL n c (t.extract 1 t.size) else t
def trimR : Nat → Int → ByteArray → ByteArray
  | 0, _, t => t
  | n + 1, c, t => if 0 < t.size ∧ bt t (t.size - 1) = c then trimR n c (t.extract 0 (t.size - 1)) else t
theorem trimL_stop {t : ByteArray} {c : Int} (h : ¬ (0 < t.size ∧ bt t 0 = c)) : ∀ n, trimL n c t = t
  | 0 => rfl
  | n + 1 => if_neg h
theorem trimR_stop {t : ByteArray} {c : Int} (h : ¬ (0 < t.size ∧ bt t (t.size - 1) = c)) : ∀ n, trimR n c t = t
  | 0 => rfl
  | n + 1 => if_neg h
theorem trimL_size : ∀ (n : Nat) (c : Int) (t : ByteArray), (trimL n c t).size ≤ t.size
  | 0, _, t => Nat.le_refl _
  | n + 1, c, t => by
    unfold trimL
    split
    · have := trimL_size n c (t.extract 1 t.size)
      rw [ByteArray.size_extract] at this
      omega
    · exact Nat.le_refl _
theorem trimR_size : ∀ (n : Nat) (c : Int) (t : ByteArray), (trimR n c t).size ≤ t.size
  | 0, _, t => Nat.le_refl _
  | n + 1, c, t => by
    unfold trimR
    split
    · have := trimR_size n c (t.extract 0 (t.size - 1))
      rw [ByteArray.size_extract] at this
      omega
    · exact Nat.le_refl _
set_option maxRecDepth 100000 in
set_option maxHeartbeats 8000000 in
theorem trimLeft_any (s : ByteArray) (c : Int) (hs : s.size ≤ 100000) (w : World) : Calls Tryd.prog 10 #[.string s, .int .u8 c] w fun e w' => e = .returned (.string (trimL s.size c s)) ∧ Below w.heap.size w w' := by
  refine calls_sat (cx := Tryd.cx 17 [] [] [] w) (Tryd.ok ..) Tryd.func10 rfl [.v (.string s), .v (.int .u8 c)] rfl (by show 2 ≤ 17; omega) [] (holds_nil (Nat.le_refl _)) ?_
  generalize hR : trimL s.size c s = R
  repeat' ((conv => whnf); first | refine walk (Tryd.ok ..) ?_ | (refine Cnd.mk (fun h => ?_) (fun h => ?_) <;> (first | exact cndT h (by (try dsimp only); omega) | exact cndF h (by (try dsimp only); omega) | (exfalso; simp at h; omega) | simp at h | skip)) | refine kp ?_ ?_ | refine tw ?_ ?_ | refine appnil rfl ?_ | refine rawnil rfl ?_ | exact trivial | refine side2 ?_ | refine sideL2 ?_ | refine Or.inr ?_ | refine sat_drawH (Tryd.ok ..) (by kernel_rfl) ?_ | refine xi _ (And.intro rfl rfl) ?_ | refine xi _ (fun _ => And.intro rfl rfl) ?_ | refine xi _ rfl ?_)
  refine sat_loop (Tryd.ok ..) (α := ByteArray) (fun t => ([(0, .yes, .v (.string t)), (1, .yes, .v (.int .u8 c))], [])) (fun t => t.size ≤ 100000 ∧ trimL t.size c t = R) (fun t => t.size) (fun _ => rfl) ?_ ?_
  · refine ⟨s, ⟨hs, hR⟩, ?_, ?_, rfl⟩
    all_goals ((repeat' (first | exact trivial | exact rfl | refine And.intro ?_ ?_)) <;> (try (conv => whnf)) <;> (try simp only [SV.real, SV.r2, SV.r1]))
  rintro t ⟨ht2, htR⟩
  by_cases h0 : 0 < t.size ∧ bt t 0 = c
  · obtain ⟨n, hn⟩ : ∃ n, t.size = n + 1 := ⟨t.size - 1, by omega⟩
    have hsz : (t.extract 1 t.size).size = n := by rw [ByteArray.size_extract]; omega
    rw [hn] at htR
    unfold trimL at htR
    rw [if_pos h0] at htR
    obtain ⟨h1, h2⟩ := h0
    repeat' ((conv => whnf); first | refine walk (Tryd.ok ..) ?_ | (refine Cnd.mk (fun h => ?_) (fun h => ?_) <;> (first | exact cndT h (by (try dsimp only); omega) | exact cndF h (by (try dsimp only); omega) | (exfalso; simp at h; omega) | simp at h | skip)) | refine kp ?_ ?_ | refine tw ?_ ?_ | refine appnil rfl ?_ | refine rawnil rfl ?_ | exact trivial | refine side2 ?_ | refine sideL2 ?_ | refine Or.inr ?_ | refine sat_drawH (Tryd.ok ..) (by kernel_rfl) ?_ | refine xi _ (And.intro rfl rfl) ?_ | refine xi _ (fun _ => And.intro rfl rfl) ?_ | refine xi _ rfl ?_)
    refine ⟨t.extract 1 t.size, ⟨⟨by rw [hsz]; omega, by rw [hsz]; exact htR⟩, by rw [hsz]; omega⟩, ?_, ?_, rfl⟩
    all_goals ((repeat' (first | exact trivial | exact rfl | refine And.intro ?_ ?_)) <;> (try (conv => whnf)) <;> (try simp only [SV.real, SV.r2, SV.r1]))
  · rw [trimL_stop h0] at htR
    subst htR
    by_cases h1 : 0 < t.size
    · have h2 : bt t 0 ≠ c := fun e => h0 ⟨h1, e⟩
      repeat' ((conv => whnf); first | refine walk (Tryd.ok ..) ?_ | (refine Cnd.mk (fun h => ?_) (fun h => ?_) <;> (first | exact cndT h (by (try dsimp only); omega) | exact cndF h (by (try dsimp only); omega) | (exfalso; simp at h; omega) | simp at h | skip)) | refine kp ?_ ?_ | refine tw ?_ ?_ | refine appnil rfl ?_ | refine rawnil rfl ?_ | exact trivial | refine side2 ?_ | refine sideL2 ?_ | refine Or.inr ?_ | refine sat_drawH (Tryd.ok ..) (by kernel_rfl) ?_ | refine xi _ (And.intro rfl rfl) ?_ | refine xi _ (fun _ => And.intro rfl rfl) ?_ | refine xi _ rfl ?_)
      all_goals exact done_pure rfl rfl rfl
    · repeat' ((conv => whnf); first | refine walk (Tryd.ok ..) ?_ | (refine Cnd.mk (fun h => ?_) (fun h => ?_) <;> (first | exact cndT h (by (try dsimp only); omega) | exact cndF h (by (try dsimp only); omega) | (exfalso; simp at h; omega) | simp at h | skip)) | refine kp ?_ ?_ | refine tw ?_ ?_ | refine appnil rfl ?_ | refine rawnil rfl ?_ | exact trivial | refine side2 ?_ | refine sideL2 ?_ | refine Or.inr ?_ | refine sat_drawH (Tryd.ok ..) (by kernel_rfl) ?_ | refine xi _ (And.intro rfl rfl) ?_ | refine xi _ (fun _ => And.intro rfl rfl) ?_ | refine xi _ rfl ?_)
      all_goals exact done_pure rfl rfl rfl
set_option maxRecDepth 100000 in
set_option maxHeartbeats 8000000 in
theorem trimRight_any (s : ByteArray) (c : Int) (hs : s.size ≤ 100000) (w : World) : Calls Tryd.prog 11 #[.string s, .int .u8 c] w fun e w' => e = .returned (.string (trimR s.size c s)) ∧ Below w.heap.size w w' := by
  refine calls_sat (cx := Tryd.cx 23 [] [] [] w) (Tryd.ok ..) Tryd.func11 rfl [.v (.string s), .v (.int .u8 c)] rfl (by show 2 ≤ 23; omega) [] (holds_nil (Nat.le_refl _)) ?_
  generalize hR : trimR s.size c s = R
  repeat' ((conv => whnf); first | refine walk (Tryd.ok ..) ?_ | (refine Cnd.mk (fun h => ?_) (fun h => ?_) <;> (first | exact cndT h (by (try dsimp only); omega) | exact cndF h (by (try dsimp only); omega) | (exfalso; simp at h; omega) | simp at h | skip)) | refine kp ?_ ?_ | refine tw ?_ ?_ | refine appnil rfl ?_ | refine rawnil rfl ?_ | exact trivial | refine side2 ?_ | refine sideL2 ?_ | refine Or.inr ?_ | refine sat_drawH (Tryd.ok ..) (by kernel_rfl) ?_ | refine xi _ (And.intro rfl rfl) ?_ | refine xi _ (fun _ => And.intro rfl rfl) ?_ | refine xi _ rfl ?_)
  refine sat_loop (Tryd.ok ..) (α := ByteArray) (fun t => ([(0, .yes, .v (.string t)), (1, .yes, .v (.int .u8 c))], [])) (fun t => t.size ≤ 100000 ∧ trimR t.size c t = R) (fun t => t.size) (fun _ => rfl) ?_ ?_
  · refine ⟨s, ⟨hs, hR⟩, ?_, ?_, rfl⟩
    all_goals ((repeat' (first | exact trivial | exact rfl | refine And.intro ?_ ?_)) <;> (try (conv => whnf)) <;> (try simp only [SV.real, SV.r2, SV.r1]))
  rintro t ⟨ht2, htR⟩
  by_cases h0 : 0 < t.size ∧ bt t (t.size - 1) = c
  · obtain ⟨n, hn⟩ : ∃ n, t.size = n + 1 := ⟨t.size - 1, by omega⟩
    have hsz : (t.extract 0 (t.size - 1)).size = n := by rw [ByteArray.size_extract]; omega
    have e0 : ((t.size : Int) - 1).toNat = t.size - 1 := by omega
    rw [hn] at htR
    unfold trimR at htR
    rw [if_pos h0] at htR
    obtain ⟨h1, h2⟩ := h0
    repeat' ((conv => whnf); first | refine walk (Tryd.ok ..) ?_ | (refine Cnd.mk (fun h => ?_) (fun h => ?_) <;> (first | exact cndT h (by (try dsimp only); omega) | exact cndF h (by (try dsimp only); omega) | (exfalso; simp at h; omega) | simp at h | skip)) | refine kp ?_ ?_ | refine tw ?_ ?_ | refine appnil rfl ?_ | refine rawnil rfl ?_ | exact trivial | refine side2 ?_ | refine sideL2 ?_ | refine Or.inr ?_ | refine sat_drawH (Tryd.ok ..) (by kernel_rfl) ?_ | refine xi _ (And.intro rfl rfl) ?_ | refine xi _ (fun _ => And.intro rfl rfl) ?_ | refine xi _ rfl ?_)
    refine ⟨t.extract 0 ((t.size : Int) - 1).toNat, ⟨⟨by rw [e0, hsz]; omega, by rw [e0, hsz]; exact htR⟩, by rw [e0, hsz]; omega⟩, ?_, ?_, rfl⟩
    all_goals ((repeat' (first | exact trivial | exact rfl | refine And.intro ?_ ?_)) <;> (try (conv => whnf)) <;> (try simp only [SV.real, SV.r2, SV.r1]))
  · rw [trimR_stop h0] at htR
    subst htR
    by_cases h1 : 0 < t.size
    · have h2 : bt t (t.size - 1) ≠ c := fun e => h0 ⟨h1, e⟩
      repeat' ((conv => whnf); first | refine walk (Tryd.ok ..) ?_ | (refine Cnd.mk (fun h => ?_) (fun h => ?_) <;> (first | exact cndT h (by (try dsimp only); omega) | exact cndF h (by (try dsimp only); omega) | (exfalso; simp at h; omega) | simp at h | skip)) | refine kp ?_ ?_ | refine tw ?_ ?_ | refine appnil rfl ?_ | refine rawnil rfl ?_ | exact trivial | refine side2 ?_ | refine sideL2 ?_ | refine Or.inr ?_ | refine sat_drawH (Tryd.ok ..) (by kernel_rfl) ?_ | refine xi _ (And.intro rfl rfl) ?_ | refine xi _ (fun _ => And.intro rfl rfl) ?_ | refine xi _ rfl ?_)
      all_goals exact done_pure rfl rfl rfl
    · repeat' ((conv => whnf); first | refine walk (Tryd.ok ..) ?_ | (refine Cnd.mk (fun h => ?_) (fun h => ?_) <;> (first | exact cndT h (by (try dsimp only); omega) | exact cndF h (by (try dsimp only); omega) | (exfalso; simp at h; omega) | simp at h | skip)) | refine kp ?_ ?_ | refine tw ?_ ?_ | refine appnil rfl ?_ | refine rawnil rfl ?_ | exact trivial | refine side2 ?_ | refine sideL2 ?_ | refine Or.inr ?_ | refine sat_drawH (Tryd.ok ..) (by kernel_rfl) ?_ | refine xi _ (And.intro rfl rfl) ?_ | refine xi _ (fun _ => And.intro rfl rfl) ?_ | refine xi _ rfl ?_)
      all_goals exact done_pure rfl rfl rfl
set_option maxRecDepth 100000 in
set_option maxHeartbeats 8000000 in
theorem trim_one (s c : ByteArray) (b : Int) (hs : s.size ≤ 100000) (hc : c.size = 1) (hb : bt c 0 = b) (hb2 : b < 128) (w : World) : Calls Tryd.prog 4 #[.string s, .string c] w fun e w' => e = .returned (.string (if s = ⟨#[]⟩ then s else trimL (trimR s.size b s).size b (trimR s.size b s))) ∧ Below w.heap.size w w' := by
  refine calls_sat (cx := Tryd.cx 43 [] [] [] w) (Tryd.ok ..) Tryd.func4 rfl [.v (.string s), .v (.string c)] rfl (by show 2 ≤ 43; omega) [] (holds_nil (Nat.le_refl _)) ?_
  have hrs := trimR_size s.size b s
  have hbn : bt c (Int.toNat 0) = b := hb
  have hcn : c ≠ ⟨#[]⟩ := fun e => by rw [e] at hc; cases hc
  by_cases he : s = ⟨#[]⟩
  · rw [if_pos he]
    repeat' ((conv => whnf); first | refine walk (Tryd.ok ..) ?_ | (refine Cnd.mk (fun h => ?_) (fun h => ?_) <;> (first | exact cndT h (by (try dsimp only); omega) | exact cndF h (by (try dsimp only); omega) | (exfalso; simp at h; omega) | simp at h | skip)) | refine kp ?_ ?_ | refine tw ?_ ?_ | refine appnil rfl ?_ | refine rawnil rfl ?_ | exact trivial | refine side2 ?_ | refine sideL2 ?_ | refine Or.inr ?_ | refine sat_drawH (Tryd.ok ..) (by kernel_rfl) ?_ | refine xi _ (And.intro rfl rfl) ?_ | refine xi _ (fun _ => And.intro rfl rfl) ?_ | refine xi _ rfl ?_)
    · exact done_pure rfl rfl rfl
    all_goals exact absurd he (by first | (exact (by assumption : ¬ s = _ ∧ _).1) | (rename_i h9 _; exact h9.1))
  · rw [if_neg he]
    repeat' ((conv => whnf); first | refine walk (Tryd.ok ..) ?_ | (refine Cnd.mk (fun h => ?_) (fun h => ?_) <;> (first | exact cndT h (by (try dsimp only); omega) | exact cndF h (by (try dsimp only); omega) | (exfalso; simp at h; omega) | simp at h | skip)) | refine kp ?_ ?_ | refine tw ?_ ?_ | refine appnil rfl ?_ | refine rawnil rfl ?_ | exact trivial | refine side2 ?_ | refine sideL2 ?_ | refine Or.inr ?_ | refine sat_drawH (Tryd.ok ..) (by kernel_rfl) ?_ | refine xi _ (And.intro rfl rfl) ?_ | refine xi _ (fun _ => And.intro rfl rfl) ?_ | refine xi _ rfl ?_)
    · exfalso
      rcases h with h | h
      · exact he h
      · exact hcn h
    (conv => whnf)
    refine calledQ_pure (.v (.string (trimR s.size b s))) rfl (fun _ w' => by rw [← hbn]; exact trimRight_any s _ hs w') ?_
    repeat' ((conv => whnf); first | refine walk (Tryd.ok ..) ?_ | (refine Cnd.mk (fun h => ?_) (fun h => ?_) <;> (first | exact cndT h (by (try dsimp only); omega) | exact cndF h (by (try dsimp only); omega) | (exfalso; simp at h; omega) | simp at h | skip)) | refine kp ?_ ?_ | refine tw ?_ ?_ | refine appnil rfl ?_ | refine rawnil rfl ?_ | exact trivial | refine side2 ?_ | refine sideL2 ?_ | refine Or.inr ?_ | refine sat_drawH (Tryd.ok ..) (by kernel_rfl) ?_ | refine xi _ (And.intro rfl rfl) ?_ | refine xi _ (fun _ => And.intro rfl rfl) ?_ | refine xi _ rfl ?_)
    (conv => whnf)
    refine calledQ_pure (.v (.string (trimL (trimR s.size b s).size b (trimR s.size b s)))) rfl (fun _ w' => by rw [← hbn]; exact trimLeft_any _ _ (by rw [hbn]; omega) w') ?_
    repeat' ((conv => whnf); first | refine walk (Tryd.ok ..) ?_ | (refine Cnd.mk (fun h => ?_) (fun h => ?_) <;> (first | exact cndT h (by (try dsimp only); omega) | exact cndF h (by (try dsimp only); omega) | (exfalso; simp at h; omega) | simp at h | skip)) | refine kp ?_ ?_ | refine tw ?_ ?_ | refine appnil rfl ?_ | refine rawnil rfl ?_ | exact trivial | refine side2 ?_ | refine sideL2 ?_ | refine Or.inr ?_ | refine sat_drawH (Tryd.ok ..) (by kernel_rfl) ?_ | refine xi _ (And.intro rfl rfl) ?_ | refine xi _ (fun _ => And.intro rfl rfl) ?_ | refine xi _ rfl ?_)
    exact done_pure rfl rfl rfl
theorem rep_size (s : ByteArray) (n : Nat) : (⟨(Lib.repeatL s.data.toList n).toArray⟩ : ByteArray).size = n * s.size := by
  show (Lib.repeatL s.data.toList n).toArray.size = _
  rw [List.size_toArray, Lib.repeatL_length]
  rfl
/-- Repeat: some string of that size -/
theorem rep_any (s : ByteArray) (n m : Nat) (hs : n * s.size = m) (hn : n ≤ 1000000) (hm : m ≤ 1000000) : ∃ r : ByteArray, r.size = m ∧ ∀ w, Calls Tryd.prog 26 #[.string s, .int .i64 n] w fun e w' => e = .returned (.string r) ∧ Below w.heap.size w w' :=
  ⟨_, (rep_size s n).trans hs, fun w => Tryd.strings_Repeat s n w (by omega) (by rw [Nat.mul_comm]; omega)⟩
/-- writes at segments in memory -/
theorem writes_at {l : List Segm} {va : Value} {w : World} (hA : NL w (fun _ => True) va l) (hf : FewL l) : Calls Tryd.prog 6 #[va] w fun e w' => e = .returned (.bool true) ∧ Below w.heap.size w w' := writes_any l va w (nl_arg hA) hf
theorem few_of {l : List Segm} (h1 : l.length ≤ 100000) (h2 : ∀ s ∈ l, s.length ≤ 100000 ∧ ∀ e ∈ s, e.length ≤ 100000) : FewL l := ⟨by omega, fun s hs => by have := (h2 s hs).1; omega, fun s hs e he => by have := (h2 s hs).2 e he; omega⟩
end Go.Proofs.YtdejcgmaphmjbaaDoor
