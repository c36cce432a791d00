/-
  The walks of the clock package's reference: the text of a time.
-/
import Derived.Test.YtmhfkmnpeponiaaGreatDoorT1
namespace Go.Proofs.YtmhfkmnpeponiaaGreatDoor
open Go Sat Go.RowKit Go.PlainAid
set_option linter.unusedSimpArgs false
set_option linter.unusedVariables false
theorem one_str {x : Int} : Sat.strOf [x] = ⟨#[UInt8.ofNat x.toNat]⟩ := rfl
def names : ByteArray := ⟨#[77, 111, 110, 84, 117, 101, 87, 101, 100, 84, 104, 117, 70, 114, 105, 83, 97, 116, 83, 117, 110]⟩
theorem names_at {d : Int} (h0 : 0 ≤ d) (h1 : d < 7) : names.extract (3 * d).toNat (3 * d + 3).toNat = dayB d := by
  obtain ⟨k, rfl⟩ : ∃ k : Nat, d = k := ⟨d.toNat, by omega⟩
  match k, h1 with
  | 0, _ => rfl
  | 1, _ => rfl
  | 2, _ => rfl
  | 3, _ => rfl
  | 4, _ => rfl
  | 5, _ => rfl
  | 6, _ => rfl
  | k + 7, h => omega
/-- digits that are written so far, and the number that is left -/
def Part (N n : Int) (s : ByteArray) : Prop := (s.size = 0 ∧ n = N) ∨ (0 < s.size ∧ itB N = (if n = 0 then ⟨#[]⟩ else itB n) ++ s)
theorem ba_nil {s : ByteArray} (h : s.size = 0) : s = ⟨#[]⟩ := by
  apply ba_ext
  have : s.data.toList.length = 0 := by rw [Array.length_toList]; exact h
  rw [List.length_eq_zero_iff] at this
  rw [this]
theorem ba_app_nil (s : ByteArray) : s ++ ⟨#[]⟩ = s := by
  apply ba_ext
  simp
theorem ba_nil_app (s : ByteArray) : ⟨#[]⟩ ++ s = s := by
  apply ba_ext
  simp
theorem ba_assoc (a b c : ByteArray) : a ++ b ++ c = a ++ (b ++ c) := by
  apply ba_ext
  simp
theorem part_step {N n : Int} {s : ByteArray} (h : Part N n s) (h0 : 0 ≤ n) (hc : ¬ (n ≤ 0 ∧ 0 < s.size)) : Part N (n / 10) (Sat.strOf [48 + n % 10] ++ s) := by
  have hs : (Sat.strOf [48 + n % 10] ++ s).size = 1 + s.size := by rw [ByteArray.size_append]; rfl
  right
  refine ⟨by omega, ?_⟩
  have hd : Sat.strOf [48 + n % 10] = ⟨#[UInt8.ofNat (48 + n.toNat % 10)]⟩ := by
    rw [one_str, show (48 + n % 10).toNat = 48 + n.toNat % 10 by omega]
  have key : itB n = (if n / 10 = 0 then ⟨#[]⟩ else itB (n / 10)) ++ Sat.strOf [48 + n % 10] := by
    rw [hd]
    by_cases e : n < 10
    · rw [if_pos (by omega), ba_nil_app, itB_small h0 e, Nat.mod_eq_of_lt (by omega)]
    · rw [if_neg (by omega), itB_big (by omega)]
  rcases h with ⟨h1, h2⟩ | ⟨h1, h2⟩
  · rw [ba_nil h1, ba_app_nil, ← h2]
    exact key
  · rw [h2, if_neg (by omega), key, ba_assoc]
theorem part_end {N n : Int} {s : ByteArray} (h : Part N n s) (h0 : 0 ≤ n) (hc : n ≤ 0 ∧ 0 < s.size) : s = itB N := by
  rcases h with ⟨h1, h2⟩ | ⟨h1, h2⟩
  · omega
  · rw [h2, if_pos (by omega), ba_nil_app]
theorem part_size {N n : Int} {s : ByteArray} (h : Part N n s) (h0 : 0 ≤ N) (h1 : N ≤ 99999) : s.size ≤ 5 := by
  rcases h with ⟨h2, h3⟩ | ⟨h2, h3⟩
  · omega
  · have h4 := itB_len h0 h1
    rw [h3, ByteArray.size_append] at h4
    omega
theorem empty_eq {s : ByteArray} : (s == (⟨#[]⟩ : ByteArray)) = decide (s.size = 0) := by
  rw [Bool.eq_iff_iff, beq_iff_eq, decide_eq_true_eq]
  constructor
  · rintro rfl; rfl
  · exact ba_nil
set_option maxRecDepth 100000 in
set_option maxHeartbeats 8000000 in
theorem rtext_any (t : Int) (w : World) : Calls Tryz.prog 35 #[.int .i64 t] w fun e w' => e = .returned (.tuple #[.string (tvV t), .int .i64 (tvE t)]) ∧ Below w.heap.size w w' := by
  refine calls_sat (cx := Tryz.cx 53 [] [] [] w) (Tryz.ok ..) Tryz.func35 rfl [.v (.int .i64 t)] rfl (by show 1 ≤ 53; omega) [] (holds_nil (Nat.le_refl _)) ?_
  repeat' ((conv => whnf); first | refine walk (Tryz.ok ..) ?_ | (refine Cnd.mk (fun h => ?_) (fun h => ?_) <;> (first | exact cndT h (by (try dsimp only); omega) | exact cndF h (by (try dsimp only); omega) | (exfalso; simp at h; omega) | simp at h | skip)) | refine kp ?_ ?_ | refine tw ?_ ?_ | exact trivial | refine side ?_ | refine sideL ?_ | refine Or.inr ?_ | refine sat_drawH (Tryz.ok ..) (by kernel_rfl) ?_ | refine Exists.intro [_] (And.intro (one_byte rfl) ?_) | refine Exists.intro [_] (And.intro (fun _ => one_byte rfl) ?_) | refine xi _ (And.intro rfl rfl) ?_ | refine xi _ (fun _ => And.intro rfl rfl) ?_ | refine xi _ rfl ?_)
  refine called_pure (.v (.bool (timedB t))) rfl (fun w' => rtime_any t w') ?_
  cases ht : timeOk t
  · obtain ⟨e1, e2⟩ := tv_no ht
    have ht2 : timedB t = false := ht
    rw [ht2, e1, e2]
    repeat' ((conv => whnf); first | refine walk (Tryz.ok ..) ?_ | (refine Cnd.mk (fun h => ?_) (fun h => ?_) <;> (first | exact cndT h (by (try dsimp only); omega) | exact cndF h (by (try dsimp only); omega) | (exfalso; simp at h; omega) | simp at h | skip)) | refine kp ?_ ?_ | refine tw ?_ ?_ | exact trivial | refine side ?_ | refine sideL ?_ | refine Or.inr ?_ | refine sat_drawH (Tryz.ok ..) (by kernel_rfl) ?_ | refine Exists.intro [_] (And.intro (one_byte rfl) ?_) | refine Exists.intro [_] (And.intro (fun _ => one_byte rfl) ?_) | refine xi _ (And.intro rfl rfl) ?_ | refine xi _ (fun _ => And.intro rfl rfl) ?_ | refine xi _ rfl ?_)
    exact done_pure rfl rfl rfl
  · obtain ⟨e1, e2⟩ := tv_yes ht
    have ht2 : timedB t = true := ht
    obtain ⟨b1, b2, b3, b4⟩ := tx_bd ht
    obtain ⟨t1, t2⟩ := timeOk_iff.1 ht
    rw [ht2, e1, e2]
    repeat' ((conv => whnf); first | refine walk (Tryz.ok ..) ?_ | (refine Cnd.mk (fun h => ?_) (fun h => ?_) <;> (first | exact cndT h (by (try dsimp only); omega) | exact cndF h (by (try dsimp only); omega) | (exfalso; simp at h; omega) | simp at h | skip)) | refine kp ?_ ?_ | refine tw ?_ ?_ | exact trivial | refine side ?_ | refine sideL ?_ | refine Or.inr ?_ | refine sat_drawH (Tryz.ok ..) (by kernel_rfl) ?_ | refine Exists.intro [_] (And.intro (one_byte rfl) ?_) | refine Exists.intro [_] (And.intro (fun _ => one_byte rfl) ?_) | refine xi _ (And.intro rfl rfl) ?_ | refine xi _ (fun _ => And.intro rfl rfl) ?_ | refine xi _ rfl ?_)
    refine sat_loop (Tryz.ok ..) (α := Int × ByteArray) (fun x => ([(0, .yes, .v (.int .i64 t)), (4, .yes, .v (.string x.2)), (5, .yes, .v (.int .i64 x.1))], [])) (fun x => (0 ≤ x.1 ∧ x.1 ≤ 9920) ∧ Part (t / 10080) x.1 x.2) (fun x => 2 * x.1.toNat + (if x.2.size = 0 then 1 else 0)) (fun _ => rfl) ?_ ?_
    · refine ⟨(t / 10080, ⟨#[]⟩), ⟨⟨by dsimp only; omega, by dsimp only; omega⟩, .inl ⟨rfl, rfl⟩⟩, ?_, ?_, rfl⟩
      all_goals ((repeat' (first | exact trivial | exact rfl | refine And.intro ?_ ?_)) <;> (try (conv => whnf)) <;> (try simp only [SV.real, SV.r2, SV.r1]))
    rintro ⟨n, s⟩ ⟨⟨n0, n1⟩, hp⟩
    dsimp only at n0 n1 hp
    have hsz := part_size hp b1.1 (by omega)
    have z0 : ∀ x : Int, (Sat.strOf [x]).size = 1 := fun _ => rfl
    repeat' ((conv => whnf); first | refine walk (Tryz.ok ..) ?_ | (refine Cnd.mk (fun h => ?_) (fun h => ?_) <;> (first | exact cndT h (by (try dsimp only); omega) | exact cndF h (by (try dsimp only); omega) | (exfalso; simp at h; omega) | simp at h | skip)) | refine kp ?_ ?_ | refine tw ?_ ?_ | exact trivial | refine side ?_ | refine sideL ?_ | refine Or.inr ?_ | refine sat_drawH (Tryz.ok ..) (by kernel_rfl) ?_ | refine Exists.intro [_] (And.intro (one_byte rfl) ?_) | refine Exists.intro [_] (And.intro (fun _ => one_byte rfl) ?_) | refine xi _ (And.intro rfl rfl) ?_ | refine xi _ (fun _ => And.intro rfl rfl) ?_ | refine xi _ rfl ?_)
    · have hst := part_step hp n0 (fun hc => by
        rcases h with h | h
        · omega
        · rw [h] at hc
          exact absurd hc.2 (by decide))
      intro g hg
      repeat' ((conv => whnf); first | refine walk (Tryz.ok ..) ?_ | (refine Cnd.mk (fun h => ?_) (fun h => ?_) <;> (first | exact cndT h (by (try dsimp only); omega) | exact cndF h (by (try dsimp only); omega) | (exfalso; simp at h; omega) | simp at h | skip)) | refine kp ?_ ?_ | refine tw ?_ ?_ | exact trivial | refine side ?_ | refine sideL ?_ | refine Or.inr ?_ | refine sat_drawH (Tryz.ok ..) (by kernel_rfl) ?_ | refine Exists.intro [_] (And.intro (one_byte rfl) ?_) | refine Exists.intro [_] (And.intro (fun _ => one_byte rfl) ?_) | refine xi _ (And.intro rfl rfl) ?_ | refine xi _ (fun _ => And.intro rfl rfl) ?_ | refine xi _ rfl ?_)
      refine ⟨(n / 10, Sat.strOf [48 + n % 10] ++ s), ⟨⟨⟨by dsimp only; omega, by dsimp only; omega⟩, hst⟩, ?_⟩, ?_, ?_, rfl⟩
      · dsimp only
        rw [ByteArray.size_append, z0, if_neg (by omega)]
        rcases h with h | h
        · split <;> omega
        · subst h
          rw [if_pos (show (⟨#[]⟩ : ByteArray).size = 0 from rfl)]
          omega
      all_goals ((repeat' (first | exact trivial | exact rfl | refine And.intro ?_ ?_)) <;> (try (conv => whnf)) <;> (try simp only [SV.real, SV.r2, SV.r1]))
    · have hs0 : 0 < s.size := by
        rcases Nat.eq_zero_or_pos s.size with e | e
        · exact absurd (ba_nil e) h.2
        · exact e
      have hs := part_end hp n0 ⟨h.1, hs0⟩
      have e3 : t % 1440 / 60 = t % 10080 % 1440 / 60 := by omega
      have e4 : t % 60 = t % 10080 % 60 := by omega
      have hnm := names_at b2.1 b2.2
      have z2 := day_size b2.1 b2.2
      have z3 := twoB_size (t % 1440 / 60)
      have z4 := twoB_size (t % 60)
      have z5 : (⟨#[32]⟩ : ByteArray).size = 1 := rfl
      have z6 : (⟨#[58]⟩ : ByteArray).size = 1 := rfl
      have z7 : (⟨#[77, 111, 110, 84, 117, 101, 87, 101, 100, 84, 104, 117, 70, 114, 105, 83, 97, 116, 83, 117, 110]⟩ : ByteArray).size = 21 := rfl
      repeat' ((conv => whnf); first | refine walk (Tryz.ok ..) ?_ | (refine Cnd.mk (fun h => ?_) (fun h => ?_) <;> (first | exact cndT h (by (try dsimp only); omega) | exact cndF h (by (try dsimp only); omega) | (exfalso; simp at h; omega) | simp at h | skip)) | refine kp ?_ ?_ | refine tw ?_ ?_ | exact trivial | refine side ?_ | refine sideL ?_ | refine Or.inr ?_ | refine sat_drawH (Tryz.ok ..) (by kernel_rfl) ?_ | refine Exists.intro [_] (And.intro (one_byte rfl) ?_) | refine Exists.intro [_] (And.intro (fun _ => one_byte rfl) ?_) | refine xi _ (And.intro rfl rfl) ?_ | refine xi _ (fun _ => And.intro rfl rfl) ?_ | refine xi _ rfl ?_)
      refine calledQ_at (.v (.string (twoB (t % 1440 / 60)))) rfl (fun _ w' hh => rtwo_any _ w' (by omega) (by omega)) ?_
      repeat' ((conv => whnf); first | refine walk (Tryz.ok ..) ?_ | (refine Cnd.mk (fun h => ?_) (fun h => ?_) <;> (first | exact cndT h (by (try dsimp only); omega) | exact cndF h (by (try dsimp only); omega) | (exfalso; simp at h; omega) | simp at h | skip)) | refine kp ?_ ?_ | refine tw ?_ ?_ | exact trivial | refine side ?_ | refine sideL ?_ | refine Or.inr ?_ | refine sat_drawH (Tryz.ok ..) (by kernel_rfl) ?_ | refine Exists.intro [_] (And.intro (one_byte rfl) ?_) | refine Exists.intro [_] (And.intro (fun _ => one_byte rfl) ?_) | refine xi _ (And.intro rfl rfl) ?_ | refine xi _ (fun _ => And.intro rfl rfl) ?_ | refine xi _ rfl ?_)
      refine calledQ_at (.v (.string (twoB (t % 60)))) rfl (fun _ w' hh => rtwo_any _ w' (by omega) (by omega)) ?_
      repeat' ((conv => whnf); first | refine walk (Tryz.ok ..) ?_ | (refine Cnd.mk (fun h => ?_) (fun h => ?_) <;> (first | exact cndT h (by (try dsimp only); omega) | exact cndF h (by (try dsimp only); omega) | (exfalso; simp at h; omega) | simp at h | skip)) | refine kp ?_ ?_ | refine tw ?_ ?_ | exact trivial | refine side ?_ | refine sideL ?_ | refine Or.inr ?_ | refine sat_drawH (Tryz.ok ..) (by kernel_rfl) ?_ | refine Exists.intro [_] (And.intro (one_byte rfl) ?_) | refine Exists.intro [_] (And.intro (fun _ => one_byte rfl) ?_) | refine xi _ (And.intro rfl rfl) ?_ | refine xi _ (fun _ => And.intro rfl rfl) ?_ | refine xi _ rfl ?_)
      refine done_pure rfl rfl ?_
      unfold txB
      rw [← hnm, ← hs, ← e3, ← e4]
      rfl
end Go.Proofs.YtmhfkmnpeponiaaGreatDoor
