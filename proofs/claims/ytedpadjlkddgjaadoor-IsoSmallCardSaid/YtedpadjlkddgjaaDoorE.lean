/-
  The walks of Write, the program's and the reference's.
-/
import Derived.Test.YtedpadjlkddgjaaDoorD
import Derived.Test.YtedpadjlkddgjaaDoorShelf
import Derived.StillTailTactics
namespace Go.Proofs.YtedpadjlkddgjaaDoor
open Go.RowKit Go.PlainAid
def blank : ByteArray := ⟨#[32]⟩
def wrW (s : ByteArray) : ByteArray := s.extract 0 4 ++ blank ++ s.extract 4 10 ++ blank ++ s.extract 10 s.size
def wrS (s : ByteArray) : ByteArray := if chk s = 0 then wrW s else ⟨#[]⟩
theorem chk_size {s : ByteArray} (h : chk s = 0) : s.size = 11 := by
  unfold chk at h
  split at h
  · rename_i h1; exact h1.1
  · omega
set_option maxHeartbeats 800000 in
theorem rwrite_any (s : ByteArray) (w : World) (hs : s.size ≤ maxLen) :
    Calls Tryd.prog 29 #[.string s] w fun e w' => e = .returned (.tuple #[.string (wrS s), .int .i64 (chk s)]) ∧ Below w.heap.size w w' := by
  by_cases he : chk s = 0
  · have e0 : (chk s != 0) = false := by simp [he]
    have hz := chk_size he
    have h0 : 11 ≤ s.size := by omega
    have h1 : s.size ≤ 11 := by omega
    have H : Hid (wrS s = wrW s) := (by unfold wrS; rw [if_pos he] : wrS s = wrW s)
    have HE := Lib.hid he
    clear he hz
    go_enter Tryd.func29, Tryd.ntmps29
    go_wp2_with (go_at_call 30; refine (of_any s _ hs).mono ?_; rintro e w' ⟨rfl, rfl⟩)
    go_quiet (fail)
    go_wp2
    go_ret2
    exact ⟨ret_two (val_str (by rw [H.out]; rfl)) (val_int HE.out.symm), below_drewN (Below.refl _ _) _⟩
  · have e0 : (chk s != 0) = true := by simp [he]
    have H : Hid (wrS s = ⟨#[]⟩) := (by unfold wrS; rw [if_neg he] : wrS s = ⟨#[]⟩)
    clear he
    go_enter Tryd.func29, Tryd.ntmps29
    go_wp2_with (go_at_call 30; refine (of_any s _ hs).mono ?_; rintro e w' ⟨rfl, rfl⟩)
    go_ret2
    exact ⟨ret_two (val_str H.out.symm) rfl, Below.refl _ _⟩
theorem join_three (a b c : ByteArray) (w : World) (hz : a.size + b.size + c.size ≤ 1000) :
    Calls Tryd.prog 36 #[.slice (some ⟨w.heap.size, 0, none⟩) 3 3, .string ⟨#[32]⟩] (w.alloc (.cells #[.string a, .string b, .string c] 9))
      fun e w' => e = .returned (.string (a ++ blank ++ b ++ blank ++ c)) ∧ Below w.heap.size w w' := by
  have hj : Lib.join ([a, b, c].map (·.data.toList)) (⟨#[32]⟩ : ByteArray).data.toList = (a ++ blank ++ b ++ blank ++ c).data.toList := by
    simp [Lib.join, List.intercalate, blank]
  refine (Tryd.strings_Join w.heap.size 0 3 [a, b, c] ⟨#[32]⟩ (w.alloc (.cells #[.string a, .string b, .string c] 9)) ?_ ?_ ?_ ?_ ?_).mono ?_
  · intro j x hx
    match j, hx with
    | 0, hx => simp at hx; subst hx; simp
    | 1, hx => simp at hx; subst hx; simp
    | 2, hx => simp at hx; subst hx; simp
    | n + 3, hx => simp at hx
  · simp
  · simp
  · simp
  · rw [hj, size_toList]; simp only [ByteArray.size_append]; have : blank.size = 1 := rfl; omega
  · rintro e w' ⟨rfl, hb⟩
    refine ⟨ret_str (by rw [hj]), ((Below.refl _ _).alloc (Nat.le_refl _) _).trans (hb.mono (by simp))⟩
theorem wrW_size (s : ByteArray) (h : s.size ≤ 11) : (s.extract 0 4).size + (s.extract 4 10).size + (s.extract 10 s.size).size ≤ 1000 := by
  simp only [ByteArray.size_extract]; omega
set_option maxHeartbeats 800000 in
theorem write_any (s : ByteArray) (w : World) (hs : s.size ≤ maxLen) :
    Calls Tryd.prog 18 #[.string s] w fun e w' => e = .returned (.tuple #[.string (wrS s), .int .i64 (chk s)]) ∧ Below w.heap.size w w' := by
  by_cases he : chk s = 0
  · have e0 : (chk s != 0) = false := by simp [he]
    have hz := chk_size he
    have h0 : 11 ≤ s.size := by omega
    have h1 : s.size ≤ 11 := by omega
    have H : Hid (wrS s = wrW s) := (by unfold wrS; rw [if_pos he] : wrS s = wrW s)
    have HE := Lib.hid he
    have g4 : (4 : Int) ≤ (s.size : Int) := by omega
    have g10 : (10 : Int) ≤ (s.size : Int) := by omega
    clear he hz
    go_enter Tryd.func18, Tryd.ntmps18
    go_wp2_with (go_at_call 34; refine (check_any s _ hs).mono ?_; rintro e w' ⟨rfl, hb1⟩)
    go_still_tail 6, (by kernel_rfl)
    change wpList _ _ _ _ _ w'.drew
    generalize hw2 : w'.drew = w2
    have hb2 : Below w.heap.size w w2 := hw2 ▸ hb1.drew
    clear hw2
    go_wp2_with (go_at_call 36; refine (join_three _ _ _ _ (wrW_size s h1)).mono ?_; rintro e w3 ⟨rfl, hb3⟩)
    go_ret2
    exact ⟨ret_two (val_str (by rw [H.out]; rfl)) (val_int HE.out.symm), below_step hb2 hb3 hb2.size⟩
  · have e0 : (chk s != 0) = true := by simp [he]
    have H : Hid (wrS s = ⟨#[]⟩) := (by unfold wrS; rw [if_neg he] : wrS s = ⟨#[]⟩)
    clear he
    go_enter Tryd.func18, Tryd.ntmps18
    go_wp2_with (go_at_call 34; refine (check_any s _ hs).mono ?_; rintro e w' ⟨rfl, hb1⟩)
    go_ret2
    exact ⟨ret_two (val_str H.out.symm) rfl, hb1⟩
end Go.Proofs.YtedpadjlkddgjaaDoor
