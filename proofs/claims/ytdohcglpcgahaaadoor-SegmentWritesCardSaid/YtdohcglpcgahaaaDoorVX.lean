/-
  The walk of the law's Small, nothing told of its sum. The walk of the law's Small, its sum told.
-/
import Derived.Test.YtdohcglpcgahaaaDoorNX
import Derived.Test.YtdohcglpcgahaaaDoorTab
import Derived.Test.YtdohcglpcgahaaaDoorBK
set_option linter.unusedSimpArgs false
set_option linter.unusedVariables false
namespace Go.Proofs.YtdohcglpcgahaaaDoor
section
open Go Sat Go.RowKit Go.PlainAid
theorem done_some {cx : Cx} {v : SV} {H : Heap} {α : Type} {I : α → Prop} {r : α → Value} (hn : cx.n0 = cx.W.heap.size) (hM : cx.M = []) (x : α) (hx : I x) (h : v.real = r x) :
    Done cx (fun e w' => ∃ x, I x ∧ e = .returned (r x) ∧ Below cx.W.heap.size cx.W w') v H :=
  ⟨fun w hw => ⟨x, hx, by rw [h], below_of hn hM hw⟩⟩
def SmallTells (l : List (List (List ByteArray))) (b : Bool) : Prop := b = true → l.length ≤ 40
set_option maxRecDepth 100000 in
set_option maxHeartbeats 8000000 in
theorem small_some (l : List (List (List ByteArray))) (va : Value) (w : World) (hA : NLA w (fun _ => True) va l) :
    Calls Tryd.prog 13 #[va] w fun e w' => ∃ b : Bool, SmallTells l b ∧ e = .returned (.bool b) ∧ Below w.heap.size w w' := by
  obtain ⟨A', A, cA, xs, rfl, aA, hcA, hrA, -, hxA⟩ := hA
  refine calls_sat (cx := Tryd.cx 67 [] [] [] w) (Tryd.ok ..) Tryd.func13 rfl [.v (.slice A' l.length cA)] rfl (by show 1 ≤ 67; omega) [] (holds_nil (Nat.le_refl _)) ?_
  by_cases hl : l.length ≤ 40
  case neg =>
    repeat' ((conv => whnf); first | refine walk (Tryd.ok ..) ?_ | (refine Cnd.mk (fun h => ?_) (fun h => ?_) <;> (first | exact cndT h (by (try dsimp only); omega) | exact cndF h (by (try dsimp only); omega) | (exfalso; simp at h; omega) | simp at h | skip)) | fail)
    exact done_some rfl rfl false (fun h => by cases h) rfl
  repeat' ((conv => whnf); first | refine walk (Tryd.ok ..) ?_ | (refine Cnd.mk (fun h => ?_) (fun h => ?_) <;> (first | exact cndT h (by (try dsimp only); omega) | exact cndF h (by (try dsimp only); omega) | (exfalso; simp at h; omega) | simp at h | skip)) | fail)
  refine sat_loop (Tryd.ok ..) (α := Nat) (fun i => ([(0, .yes, .v (.slice A' l.length cA)), (3, .yes, .v (.int .i64 i))], []))
    (fun i => i ≤ l.length) (fun i => l.length - i) (fun _ => rfl) ?_ ?_
  · refine ⟨0, Nat.zero_le _, ?_, ?_, rfl⟩
    all_goals ((repeat' (first | exact trivial | exact rfl | refine And.intro ?_ ?_)) <;> (try (conv => whnf)) <;> (try simp only [SV.real, SV.r2, SV.r1]))
  rintro i hi
  by_cases hi1 : i < l.length
  case neg =>
    obtain rfl : i = l.length := by omega
    repeat' ((conv => whnf); first | refine walk (Tryd.ok ..) ?_ | (refine Cnd.mk (fun h => ?_) (fun h => ?_) <;> (first | exact cndT h (by (try dsimp only); omega) | exact cndF h (by (try dsimp only); omega) | (exfalso; simp at h; omega) | simp at h | skip)) | fail)
    exact done_some rfl rfl true (fun _ => hl) rfl
  obtain ⟨s, hs⟩ : ∃ s, l[i]? = some s := ⟨_, List.getElem?_eq_getElem hi1⟩
  obtain ⟨x, hx, A1', A1, cA1, xs1, rfl, aA1, hcA1, hrA1, -, hxA1⟩ := nest_at hxA hrA.1 hs
  obtain ⟨p, rfl, rfl⟩ := some_of aA hrA (by omega)
  have hmax1 : s.length ≤ 9223372036854775807 := Nat.le_trans (Nat.le_trans hcA1.1 hcA1.2) (by decide)
  repeat' ((conv => whnf); first | refine walk (Tryd.ok ..) ?_ | (refine Cnd.mk (fun h => ?_) (fun h => ?_) <;> (first | exact cndT h (by (try dsimp only); omega) | exact cndF h (by (try dsimp only); omega) | (exfalso; simp at h; omega) | simp at h | skip)) | refine side2 ?_ | refine xi _ (ro_at rfl rfl hrA hx rfl) ?_ | fail)
  refine sat_loop (Tryd.ok ..) (α := Nat × Int) (fun t => ([(0, .yes, .v (.slice (adr (some p)) l.length cA)), (3, .yes, .v (.int .i64 i)), (4, .yes, .v (.int .i64 t.2)), (5, .yes, .v (.int .i64 t.1))], []))
    (fun t => t.1 ≤ s.length) (fun t => s.length - t.1) (fun _ => rfl) ?_ ?_
  · refine ⟨(0, s.length), Nat.zero_le _, ?_, ?_, rfl⟩
    all_goals ((repeat' (first | exact trivial | exact rfl | refine And.intro ?_ ?_)) <;> (try (conv => whnf)) <;> (try simp only [SV.real, SV.r2, SV.r1]))
  rintro ⟨k, n⟩ hk
  dsimp only at hk ⊢
  by_cases hk1 : k < s.length
  case neg =>
    obtain rfl : k = s.length := by omega
    repeat' ((conv => whnf); first | refine walk (Tryd.ok ..) ?_ | (refine Cnd.mk (fun h => ?_) (fun h => ?_) <;> (first | exact cndT h (by (try dsimp only); omega) | exact cndF h (by (try dsimp only); omega) | (exfalso; simp at h; omega) | simp at h | skip)) | refine side2 ?_ | refine sideL2 ?_ | refine xi _ (ro_at rfl rfl hrA hx rfl) ?_ | fail)
    · exact done_some rfl rfl false (fun h => by cases h) rfl
    refine ⟨i + 1, ⟨hi1, by omega⟩, ?_, ?_, rfl⟩
    all_goals ((repeat' (first | exact trivial | exact rfl | refine And.intro ?_ ?_)) <;> (try (conv => whnf)) <;> (try simp only [SV.real, SV.r2, SV.r1]))
  obtain ⟨e, he⟩ : ∃ e, s[k]? = some e := ⟨_, List.getElem?_eq_getElem hk1⟩
  obtain ⟨y, hy, hne⟩ := nest_at hxA1 hrA1.1 he
  obtain ⟨A2', A2, cA2, rfl, aA2, hcA2, hrA2, -⟩ := nea_row hne
  obtain ⟨q, rfl, rfl⟩ := some_of aA1 hrA1 (by omega)
  have hmax2 : e.length ≤ 9223372036854775807 := Nat.le_trans (Nat.le_trans hcA2.1 hcA2.2) (by decide)
  repeat' ((conv => whnf); first | refine walk (Tryd.ok ..) ?_ | (refine Cnd.mk (fun h => ?_) (fun h => ?_) <;> (first | exact cndT h (by (try dsimp only); omega) | exact cndF h (by (try dsimp only); omega) | (exfalso; simp at h; omega) | simp at h | skip)) | refine side2 ?_ | refine Or.inr ?_ | refine xi _ (ro_at rfl rfl hrA hx rfl) ?_ | refine xi _ (ro_at rfl rfl hrA1 hy rfl) ?_ | fail)
  refine sat_loop (Tryd.ok ..) (α := Nat × Int) (fun t => ([(0, .yes, .v (.slice (adr (some p)) l.length cA)), (3, .yes, .v (.int .i64 i)), (4, .yes, .v (.int .i64 t.2)), (5, .yes, .v (.int .i64 k)), (6, .yes, .v (.int .i64 t.1))], []))
    (fun t => t.1 ≤ e.length) (fun t => e.length - t.1) (fun _ => rfl) ?_ ?_
  · refine ⟨(0, IntKind.i64.wrap (n + e.length)), Nat.zero_le _, ?_, ?_, rfl⟩
    all_goals ((repeat' (first | exact trivial | exact rfl | refine And.intro ?_ ?_)) <;> (try (conv => whnf)) <;> (try simp only [SV.real, SV.r2, SV.r1]))
  rintro ⟨j, n2⟩ hj
  dsimp only at hj ⊢
  by_cases hj1 : j < e.length
  case neg =>
    obtain rfl : j = e.length := by omega
    repeat' ((conv => whnf); first | refine walk (Tryd.ok ..) ?_ | (refine Cnd.mk (fun h => ?_) (fun h => ?_) <;> (first | exact cndT h (by (try dsimp only); omega) | exact cndF h (by (try dsimp only); omega) | (exfalso; simp at h; omega) | simp at h | skip)) | refine side2 ?_ | refine sideL2 ?_ | refine xi _ (ro_at rfl rfl hrA hx rfl) ?_ | refine xi _ (ro_at rfl rfl hrA1 hy rfl) ?_ | fail)
    refine ⟨(k + 1, n2), ⟨hk1, by omega⟩, ?_, ?_, rfl⟩
    all_goals ((repeat' (first | exact trivial | exact rfl | refine And.intro ?_ ?_)) <;> (try (conv => whnf)) <;> (try simp only [SV.real, SV.r2, SV.r1]))
  obtain ⟨c, hc⟩ : ∃ c, e[j]? = some c := ⟨_, List.getElem?_eq_getElem hj1⟩
  obtain ⟨q2, rfl, rfl⟩ := some_of aA2 hrA2 (by omega)
  repeat' ((conv => whnf); first | refine walk (Tryd.ok ..) ?_ | (refine Cnd.mk (fun h => ?_) (fun h => ?_) <;> (first | exact cndT h (by (try dsimp only); omega) | exact cndF h (by (try dsimp only); omega) | (exfalso; simp at h; omega) | simp at h | skip)) | refine side2 ?_ | refine sideL2 ?_ | refine Or.inr ?_ | refine xi _ (ro_at rfl rfl hrA hx rfl) ?_ | refine xi _ (ro_at rfl rfl hrA1 hy rfl) ?_ | refine xi _ (ro_at rfl rfl hrA2 (str_cell hc) rfl) ?_ | fail)
  refine ⟨(j + 1, IntKind.i64.wrap (n2 + c.size)), ⟨hj1, by omega⟩, ?_, ?_, rfl⟩
  all_goals ((repeat' (first | exact trivial | exact rfl | refine And.intro ?_ ?_)) <;> (try (conv => whnf)) <;> (try simp only [SV.real, SV.r2, SV.r1]))
end
section
open Go Sat Go.RowKit Go.PlainAid
def T0 {α : Type} (m : α → Nat) : List α → Nat
  | [] => 0
  | x :: l => m x + T0 m l
theorem T0_app {α : Type} (m : α → Nat) : ∀ (l l' : List α), T0 m (l ++ l') = T0 m l + T0 m l'
  | [], l' => by simp [T0]
  | x :: l, l' => by
    show m x + T0 m (l ++ l') = m x + T0 m l + T0 m l'
    rw [T0_app m l l']
    omega
theorem T0_step {α : Type} (m : α → Nat) {l : List α} {k : Nat} {x : α} (h : l[k]? = some x) : T0 m (l.take (k + 1)) = T0 m (l.take k) + m x := by
  rw [List.take_add_one, h, T0_app]
  simp [T0]
theorem T0_sum {α : Type} (m : α → Nat) : ∀ l : List α, sumW m l = l.length + T0 m l
  | [] => rfl
  | x :: l => by
    unfold sumW T0
    rw [T0_sum m l, List.length_cons]
    omega
theorem T0_le {α : Type} (m : α → Nat) (l : List α) (k : Nat) : T0 m (l.take k) ≤ T0 m l := by
  have := T0_app m (l.take k) (l.drop k)
  rw [List.take_append_drop] at this
  omega
theorem T0_mem {α : Type} (m : α → Nat) {l : List α} {x : α} (h : x ∈ l) : m x ≤ T0 m l := by
  induction l with
  | nil => cases h
  | cons y l ih =>
    unfold T0
    rcases List.mem_cons.1 h with rfl | h
    · omega
    · have := ih h
      omega
def SmallSays (l : List (List (List ByteArray))) (b : Bool) : Prop := b = true → l.length ≤ 40 ∧ ∀ s ∈ l, mS s ≤ 700
set_option maxRecDepth 100000 in
set_option maxHeartbeats 8000000 in
theorem small_says (l : List (List (List ByteArray))) (va : Value) (w : World) (hA : NLA w (fun _ => True) va l) (hsum : ∀ s ∈ l, mS s ≤ 1000000000000) :
    Calls Tryd.prog 13 #[va] w fun e w' => ∃ b : Bool, SmallSays l b ∧ e = .returned (.bool b) ∧ Below w.heap.size w w' := by
  obtain ⟨A', A, cA, xs, rfl, aA, hcA, hrA, -, hxA⟩ := hA
  refine calls_sat (cx := Tryd.cx 67 [] [] [] w) (Tryd.ok ..) Tryd.func13 rfl [.v (.slice A' l.length cA)] rfl (by show 1 ≤ 67; omega) [] (holds_nil (Nat.le_refl _)) ?_
  by_cases hl : l.length ≤ 40
  case neg =>
    repeat' ((conv => whnf); first | refine walk (Tryd.ok ..) ?_ | (refine Cnd.mk (fun h => ?_) (fun h => ?_) <;> (first | exact cndT h (by (try dsimp only); omega) | exact cndF h (by (try dsimp only); omega) | (exfalso; simp at h; omega) | simp at h | skip)) | fail)
    exact done_some rfl rfl false (fun h => by cases h) rfl
  repeat' ((conv => whnf); first | refine walk (Tryd.ok ..) ?_ | (refine Cnd.mk (fun h => ?_) (fun h => ?_) <;> (first | exact cndT h (by (try dsimp only); omega) | exact cndF h (by (try dsimp only); omega) | (exfalso; simp at h; omega) | simp at h | skip)) | fail)
  refine sat_loop (Tryd.ok ..) (α := Nat) (fun i => ([(0, .yes, .v (.slice A' l.length cA)), (3, .yes, .v (.int .i64 i))], []))
    (fun i => i ≤ l.length ∧ ∀ s ∈ l.take i, mS s ≤ 700) (fun i => l.length - i) (fun _ => rfl) ?_ ?_
  · refine ⟨0, ⟨Nat.zero_le _, fun s hs => by simp at hs⟩, ?_, ?_, rfl⟩
    all_goals ((repeat' (first | exact trivial | exact rfl | refine And.intro ?_ ?_)) <;> (try (conv => whnf)) <;> (try simp only [SV.real, SV.r2, SV.r1]))
  rintro i ⟨hi, hall⟩
  by_cases hi1 : i < l.length
  case neg =>
    obtain rfl : i = l.length := by omega
    rw [List.take_length] at hall
    repeat' ((conv => whnf); first | refine walk (Tryd.ok ..) ?_ | (refine Cnd.mk (fun h => ?_) (fun h => ?_) <;> (first | exact cndT h (by (try dsimp only); omega) | exact cndF h (by (try dsimp only); omega) | (exfalso; simp at h; omega) | simp at h | skip)) | fail)
    exact done_some rfl rfl true (fun _ => ⟨hl, hall⟩) rfl
  obtain ⟨s, hs⟩ : ∃ s, l[i]? = some s := ⟨_, List.getElem?_eq_getElem hi1⟩
  have hss := hsum s (List.mem_of_getElem? hs)
  have hm0 : mS s = s.length + T0 mE s := T0_sum mE s
  obtain ⟨x, hx, A1', A1, cA1, xs1, rfl, aA1, hcA1, hrA1, -, hxA1⟩ := nest_at hxA hrA.1 hs
  obtain ⟨p, rfl, rfl⟩ := some_of aA hrA (by omega)
  have hmax1 : s.length ≤ 9223372036854775807 := Nat.le_trans (Nat.le_trans hcA1.1 hcA1.2) (by decide)
  repeat' ((conv => whnf); first | refine walk (Tryd.ok ..) ?_ | (refine Cnd.mk (fun h => ?_) (fun h => ?_) <;> (first | exact cndT h (by (try dsimp only); omega) | exact cndF h (by (try dsimp only); omega) | (exfalso; simp at h; omega) | simp at h | skip)) | refine side2 ?_ | refine xi _ (ro_at rfl rfl hrA hx rfl) ?_ | fail)
  refine sat_loop (Tryd.ok ..) (α := Nat × Nat) (fun t => ([(0, .yes, .v (.slice (adr (some p)) l.length cA)), (3, .yes, .v (.int .i64 i)), (4, .yes, .v (.int .i64 (t.2 : Int))), (5, .yes, .v (.int .i64 t.1))], []))
    (fun t => t.1 ≤ s.length ∧ t.2 = s.length + T0 mE (s.take t.1)) (fun t => s.length - t.1) (fun _ => rfl) ?_ ?_
  · refine ⟨(0, s.length), ⟨Nat.zero_le _, by simp [T0]⟩, ?_, ?_, rfl⟩
    all_goals ((repeat' (first | exact trivial | exact rfl | refine And.intro ?_ ?_)) <;> (try (conv => whnf)) <;> (try simp only [SV.real, SV.r2, SV.r1]))
  rintro ⟨k, n⟩ ⟨hk, hn⟩
  dsimp only at hk hn ⊢
  have hle := T0_le mE s k
  by_cases hk1 : k < s.length
  case neg =>
    obtain rfl : k = s.length := by omega
    rw [List.take_length] at hn
    by_cases hbig : 700 < n
    · repeat' ((conv => whnf); first | refine walk (Tryd.ok ..) ?_ | (refine Cnd.mk (fun h => ?_) (fun h => ?_) <;> (first | exact cndT h (by (try dsimp only); omega) | exact cndF h (by (try dsimp only); omega) | (exfalso; simp at h; omega) | simp at h | skip)) | refine side2 ?_ | refine xi _ (ro_at rfl rfl hrA hx rfl) ?_ | fail)
      exact done_some rfl rfl false (fun h => by cases h) rfl
    · repeat' ((conv => whnf); first | refine walk (Tryd.ok ..) ?_ | (refine Cnd.mk (fun h => ?_) (fun h => ?_) <;> (first | exact cndT h (by (try dsimp only); omega) | exact cndF h (by (try dsimp only); omega) | (exfalso; simp at h; omega) | simp at h | skip)) | refine side2 ?_ | refine sideL2 ?_ | refine xi _ (ro_at rfl rfl hrA hx rfl) ?_ | fail)
      refine ⟨i + 1, ⟨⟨hi1, fun y hy => ?_⟩, by omega⟩, ?_, ?_, rfl⟩
      · rw [List.take_add_one, hs] at hy
        rcases List.mem_append.1 hy with hy | hy
        · exact hall y hy
        · have : y = s := by simpa using hy
          rw [this]
          omega
      all_goals ((repeat' (first | exact trivial | exact rfl | refine And.intro ?_ ?_)) <;> (try (conv => whnf)) <;> (try simp only [SV.real, SV.r2, SV.r1]))
  obtain ⟨e, he⟩ : ∃ e, s[k]? = some e := ⟨_, List.getElem?_eq_getElem hk1⟩
  obtain ⟨y, hy, hne⟩ := nest_at hxA1 hrA1.1 he
  obtain ⟨A2', A2, cA2, rfl, aA2, hcA2, hrA2, -⟩ := nea_row hne
  obtain ⟨q, rfl, rfl⟩ := some_of aA1 hrA1 (by omega)
  have hmax2 : e.length ≤ 9223372036854775807 := Nat.le_trans (Nat.le_trans hcA2.1 hcA2.2) (by decide)
  have hst := T0_step mE he
  have hle2 := T0_le mE s (k + 1)
  have hm1 : mE e = e.length + T0 mC e := T0_sum mC e
  repeat' ((conv => whnf); first | refine walk (Tryd.ok ..) ?_ | (refine Cnd.mk (fun h => ?_) (fun h => ?_) <;> (first | exact cndT h (by (try dsimp only); omega) | exact cndF h (by (try dsimp only); omega) | (exfalso; simp at h; omega) | simp at h | skip)) | refine side2 ?_ | refine sideL2 ?_ | refine xi _ (ro_at rfl rfl hrA hx rfl) ?_ | refine xi _ (ro_at rfl rfl hrA1 hy rfl) ?_ | fail)
  refine sat_loop (Tryd.ok ..) (α := Nat × Nat) (fun t => ([(0, .yes, .v (.slice (adr (some p)) l.length cA)), (3, .yes, .v (.int .i64 i)), (4, .yes, .v (.int .i64 (t.2 : Int))), (5, .yes, .v (.int .i64 k)), (6, .yes, .v (.int .i64 t.1))], []))
    (fun t => t.1 ≤ e.length ∧ t.2 = n + e.length + T0 mC (e.take t.1)) (fun t => e.length - t.1) (fun _ => rfl) ?_ ?_
  · refine ⟨(0, n + e.length), ⟨Nat.zero_le _, by simp [T0]⟩, ?_, ?_, rfl⟩
    all_goals ((repeat' (first | exact trivial | exact rfl | refine And.intro ?_ ?_)) <;> (try (conv => whnf)) <;> (try simp only [SV.real, SV.r2, SV.r1]))
  rintro ⟨j, n2⟩ ⟨hj, hn2⟩
  dsimp only at hj hn2 ⊢
  by_cases hj1 : j < e.length
  case neg =>
    obtain rfl : j = e.length := by omega
    rw [List.take_length] at hn2
    repeat' ((conv => whnf); first | refine walk (Tryd.ok ..) ?_ | (refine Cnd.mk (fun h => ?_) (fun h => ?_) <;> (first | exact cndT h (by (try dsimp only); omega) | exact cndF h (by (try dsimp only); omega) | (exfalso; simp at h; omega) | simp at h | skip)) | refine side2 ?_ | refine sideL2 ?_ | refine xi _ (ro_at rfl rfl hrA hx rfl) ?_ | refine xi _ (ro_at rfl rfl hrA1 hy rfl) ?_ | fail)
    refine ⟨(k + 1, n2), ⟨⟨hk1, by show n2 = s.length + T0 mE (s.take (k + 1)); omega⟩, by omega⟩, ?_, ?_, rfl⟩
    all_goals ((repeat' (first | exact trivial | exact rfl | refine And.intro ?_ ?_)) <;> (try (conv => whnf)) <;> (try simp only [SV.real, SV.r2, SV.r1]))
  obtain ⟨c, hc⟩ : ∃ c, e[j]? = some c := ⟨_, List.getElem?_eq_getElem hj1⟩
  obtain ⟨q2, rfl, rfl⟩ := some_of aA2 hrA2 (by omega)
  have hst2 := T0_step mC hc
  have hle3 := T0_le mC e (j + 1)
  have hmc : mC c = c.size := rfl
  repeat' ((conv => whnf); first | refine walk (Tryd.ok ..) ?_ | (refine Cnd.mk (fun h => ?_) (fun h => ?_) <;> (first | exact cndT h (by (try dsimp only); omega) | exact cndF h (by (try dsimp only); omega) | (exfalso; simp at h; omega) | simp at h | skip)) | refine side2 ?_ | refine sideL2 ?_ | refine xi _ (ro_at rfl rfl hrA hx rfl) ?_ | refine xi _ (ro_at rfl rfl hrA1 hy rfl) ?_ | refine xi _ (ro_at rfl rfl hrA2 (str_cell hc) rfl) ?_ | fail)
  refine ⟨(j + 1, n2 + c.size), ⟨⟨hj1, by show n2 + c.size = n + e.length + T0 mC (e.take (j + 1)); omega⟩, by omega⟩, ?_, ?_, rfl⟩
  all_goals ((repeat' (first | exact trivial | exact rfl | refine And.intro ?_ ?_)) <;> (try (conv => whnf)) <;> (try simp only [SV.real, SV.r2, SV.r1]))
end
end Go.Proofs.YtdohcglpcgahaaaDoor
