/-
  What SegmentSmall calls, at arguments of its own. Messages with numbers as references: right, many. No program in sight. The walk of the law's limits. The strings that the law's own texts are made of. SegmentSmall walked.
-/
import Derived.Test.YtdohcglpcgahaaaGreatDoorVRX
import Derived.Test.YtdohcglpcgahaaaGreatDoorUY
import Derived.Test.YtdohcglpcgahaaaGreatDoorSHR
import Derived.Test.YtdohcglpcgahaaaGreatDoorSWX
import Derived.Test.YtdohcglpcgahaaaGreatDoorTRX
import Derived.Test.YtdohcglpcgahaaaGreatDoorSXX
set_option linter.unusedSimpArgs false
set_option linter.unusedVariables false
namespace Go.Proofs.YtdohcglpcgahaaaGreatDoor
section
open Go Sat Go.RowKit Go.PlainAid
theorem rep_size (s : ByteArray) (n : Nat) : (⟨(Lib.repeatL s.data.toList n).toArray⟩ : ByteArray).size = n * s.size := by
  have h : ∀ n, (Lib.repeatL s.data.toList n).length = n * s.data.toList.length := by
    intro n
    induction n with
    | zero => simp [Lib.repeatL]
    | succ n ih => rw [Lib.repeatL, List.length_append, ih, Nat.succ_mul]; omega
  exact h n
/-- Repeat: some string of that size -/
theorem rep_lit (s : ByteArray) (n k : Nat) (hs : s.size = k) (hk : k ≤ 10) (hn : n ≤ 1000) : ∃ r : ByteArray, r.size ≤ 10000 ∧ ∀ w, Calls Tryz.prog 25 #[.string s, .int .i64 n] w fun e w' => e = .returned (.string r) ∧ Below w.heap.size w w' := by
  subst hs
  have h1 : n * s.size ≤ 1000 * 10 := Nat.mul_le_mul hn hk
  exact ⟨_, by rw [rep_size]; exact h1, fun w => Tryz.strings_Repeat s n w (by omega) (by rw [Nat.mul_comm]; omega)⟩
theorem itB_size (n : Nat) : (itB n).size ≤ n + 1 := by
  have h : (itB n).size = (Lib.itoa n).length := rfl
  rw [h]
  unfold Lib.itoa
  rw [if_neg (by omega), Int.toNat_natCast]
  have : ∀ (n : Nat), (Lib.decDigits n).length ≤ n + 1 := by
    intro n
    induction n using Nat.strongRecOn with
    | _ n ih =>
      rw [Lib.decDigits]
      split
      · simp
      · have := ih (n / 10) (by omega)
        rw [List.length_append]
        simp only [List.length_cons, List.length_nil]
        omega
  exact this n
/-- a block of one's own, several cells to an element -/
theorem blk_zT {α : Type} {z : Nat} (R : LiesC α) {cx : Cx} {H : Heap} {w : World} (hw : Holds cx H w) (id : Nat) {g T : Nat} {cs : List SV} (l : List α) (xs : List Value) (hf : hfind H id = some (.blk g T cs)) (hxs : cs.map SV.r1 = xs) (hm : l.length ≤ maxLen) {n : Nat} (hn : n = l.length) (hl : xs.length = l.length * z) (hx : ∀ (i : Nat) (a : α), l[i]? = some a → R w (fun _ => True) (cut1 xs z i) a) : NestZ z R w (fun _ => True) (.slice (some ⟨g, 0, none⟩) n n) l := by
  subst hn hxs
  have hb : (HB.blk g T cs).holds cx w := hw.at_ hf
  refine ⟨_, some (g, 0), l.length, cs.map SV.r1, rfl, ⟨fun _ => rfl⟩, ⟨Nat.le_refl _, hm⟩, ⟨hl, fun _ => ⟨(g, 0), rfl, heap_lt hb.2, fun j u hu => ?_⟩⟩, fun _ _ _ => trivial, hx⟩
  rw [Lib.cell_of_heap hb.2]
  simpa using hu
/-- bounds of messages of the law's own -/
structure OwnB (l : List Msg) : Prop where
  top : l.length ≤ 6
  msg : ∀ m ∈ l, m.kind.size ≤ 100000 ∧ m.ref.size ≤ 100000 ∧ m.segs.length ≤ 12 ∧ ∀ s ∈ m.segs, s.1.size ≤ 100000 ∧ s.2.length ≤ 1000 ∧ ∀ e ∈ s.2, e.length ≤ 1000
theorem OwnB.arg {l : List Msg} (h : OwnB l) : ArgM l := by
  have h1 := h.top
  refine ⟨by omega, fun m hm => ?_⟩
  obtain ⟨a, b, c, d⟩ := h.msg m hm
  refine ⟨Nat.le_trans a (by decide), Nat.le_trans b (by decide), by omega, fun s hs => ?_⟩
  obtain ⟨e, f, g⟩ := d s hs
  exact ⟨Nat.le_trans e (by decide), ⟨by omega, fun x hx => by have := g x hx; omega⟩, by omega⟩
theorem writes_own (l : List Msg) (v : Value) (w : World) (hw : WfT w) (hA : NMsgs NSA w (fun _ => True) v l) (h : OwnB l) :
    Calls Tryz.prog 5 #[v] w fun e w' => e = .returned (.bool true) ∧ Below w.heap.size w w' :=
  writesM_any l v w hw hA h.arg h.top fun m hm => (h.msg m hm).2.2.1
theorem bare_msg (k r : ByteArray) {w : World} {B : Nat → Prop} : MsgR NSA w B [.string k, .string r, .slice none 0 0] ⟨k, r, []⟩ := ⟨_, rfl, nestz_nil⟩
theorem ownB_one {k r : ByteArray} (hk : k.size ≤ 100000) (hr : r.size ≤ 100000) : OwnB [⟨k, r, []⟩] := ⟨by simp, fun m hm => by
  rw [List.mem_singleton] at hm
  subst hm
  exact ⟨hk, hr, by simp, fun s hs => by cases hs⟩⟩
theorem ownB_two {k r k2 r2 : ByteArray} (hk : k.size ≤ 100000) (hr : r.size ≤ 100000) (hk2 : k2.size ≤ 100000) (hr2 : r2.size ≤ 100000) : OwnB [⟨k, r, []⟩, ⟨k2, r2, []⟩] := ⟨by simp, fun m hm => by
  rcases List.mem_cons.1 hm with rfl | hm
  · exact ⟨hk, hr, by simp, fun s hs => by cases hs⟩
  · rw [List.mem_singleton] at hm
    subst hm
    exact ⟨hk2, hr2, by simp, fun s hs => by cases hs⟩⟩
theorem ownB_seg {k r t : ByteArray} {d : Dat} (hk : k.size ≤ 100000) (hr : r.size ≤ 100000) (ht : t.size ≤ 100000) (hd : d.length ≤ 1000) (he : ∀ e ∈ d, e.length ≤ 1000) : OwnB [⟨k, r, [(t, d)]⟩] := ⟨by simp, fun m hm => by
  rw [List.mem_singleton] at hm
  subst hm
  refine ⟨hk, hr, by simp, fun s hs => ?_⟩
  rw [List.mem_singleton] at hs
  subst hs
  exact ⟨ht, hd, he⟩⟩
theorem at_one {α : Type} {P : Nat → α → Prop} {x : α} (h0 : P 0 x) : ∀ (i : Nat) (a : α), [x][i]? = some a → P i a := by
  intro i a h
  match i, h with
  | 0, h => cases h; exact h0
  | i + 1, h => simp at h
theorem at_two {α : Type} {P : Nat → α → Prop} {x y : α} (h0 : P 0 x) (h1 : P 1 y) : ∀ (i : Nat) (a : α), [x, y][i]? = some a → P i a := by
  intro i a h
  match i, h with
  | 0, h => cases h; exact h0
  | 1, h => cases h; exact h1
  | i + 2, h => simp at h
end
section
open Go Sat Go.RowKit Go.PlainAid
def kK : ByteArray := ⟨#[65, 66, 67, 68, 69, 70]⟩
def numM (j : Nat) : Msg := ⟨kK, itB j, []⟩
def numL (n : Nat) : List Msg := (List.range n).map numM
theorem dec_dig : ∀ (n : Nat), ∀ b ∈ Lib.decDigits n, 48 ≤ b.toNat ∧ b.toNat ≤ 57 := by
  intro n
  induction n using Nat.strongRecOn with
  | _ n ih =>
    intro b hb
    rw [Lib.decDigits] at hb
    split at hb
    · rename_i h
      rw [List.mem_singleton] at hb
      subst hb
      rw [UInt8.toNat_ofNat']
      omega
    · rw [List.mem_append] at hb
      rcases hb with hb | hb
      · exact ih (n / 10) (by omega) b hb
      · rw [List.mem_singleton] at hb
        subst hb
        rw [UInt8.toNat_ofNat']
        omega
theorem dec_short : ∀ (k n : Nat), n < 10 ^ (k + 1) → (Lib.decDigits n).length ≤ k + 1
  | 0, n, h => by
    rw [Lib.decDigits]
    split
    · simp
    · omega
  | k + 1, n, h => by
    rw [Lib.decDigits]
    split
    · simp
    · have h1 : n / 10 < 10 ^ (k + 1) := by
        rw [Nat.pow_succ] at h
        omega
      have := dec_short k (n / 10) h1
      rw [List.length_append]
      simp only [List.length_cons, List.length_nil]
      omega
theorem dec_some (n : Nat) : Lib.decDigits n ≠ [] := by
  rw [Lib.decDigits]
  split <;> simp
theorem itB_list (j : Nat) : (itB j).data.toList = Lib.decDigits j := by
  show Lib.itoa (j : Int) = _
  unfold Lib.itoa
  rw [if_neg (by omega), Int.toNat_natCast]
theorem itB_ref {j : Nat} (h : j < 10000) : refB (itB j) = true := by
  unfold refB lettersB
  rw [itB_list, Bool.and_eq_true, decide_eq_true_eq, List.all_eq_true]
  refine ⟨fun b hb => ?_, List.length_pos_iff.2 (dec_some j), Nat.le_trans (dec_short 3 j h) (by omega)⟩
  have := dec_dig j b hb
  unfold capB digB
  simp
  omega
theorem numM_right {j : Nat} (h : j < 10000) : rightM (numM j) = true := by
  unfold rightM
  rw [show refB (numM j).ref = true from itB_ref h, show kindB (numM j).kind = true from (by decide : kindB kK = true)]
  rfl
theorem okFrom_of : ∀ (l : List Msg) (met : List ByteArray), (∀ m ∈ l, rightM m = true) → (l.map Msg.ref).Pairwise (· ≠ ·) → (∀ m ∈ l, m.ref ∉ met) → okFrom met l = true
  | [], _, _, _, _ => rfl
  | m :: l, met, h1, h2, h3 => by
    rw [List.map_cons, List.pairwise_cons] at h2
    rw [okFrom, h1 m List.mem_cons_self, decide_eq_false (h3 m List.mem_cons_self), okFrom_of l _ (fun m hm => h1 m (List.mem_cons_of_mem _ hm)) h2.2 (fun x hx h => ?_)]
    · rfl
    · rcases List.mem_cons.1 h with h | h
      · exact h2.1 x.ref (List.mem_map_of_mem hx) h.symm
      · exact h3 x (List.mem_cons_of_mem _ hx) h
theorem numL_ok {n : Nat} (h : n ≤ 10000) : okFrom [] (numL n) = true := by
  refine okFrom_of _ _ (fun m hm => ?_) ?_ (fun m _ h => by cases h)
  · obtain ⟨j, hj, rfl⟩ := List.mem_map.1 hm
    exact numM_right (by have := List.mem_range.1 hj; omega)
  · unfold numL
    rw [List.map_map, List.pairwise_map]
    refine (List.pairwise_lt_range).imp fun {a b} hab he => ?_
    have he : itB (a : Int) = itB (b : Int) := he
    have := itB_inj he
    omega
theorem numL_len (n : Nat) : (segsL (numL n)).length = n * 2 := by
  have : ∀ l : List Nat, (segsL (l.map numM)).length = l.length * 2 := by
    intro l
    induction l with
    | nil => rfl
    | cons j l ih =>
      rw [List.map_cons, show segsL (numM j :: l.map numM) = segsM (numM j) ++ segsL (l.map numM) from rfl, List.length_append, ih, List.length_cons]
      have : (segsM (numM j)).length = 2 := rfl
      omega
  unfold numL
  rw [this, List.length_range]
theorem kK_right : rightC kK = true := by decide
theorem two_right : rightC (itB ((([] : List Sg).length : Int) + 2)) = true := by kernel_rfl
theorem rightC_num {j : Nat} (h : j < 10000) : rightC (itB j) = true := rightC_letters (itB_ref h) (by omega)
theorem numL_right {n : Nat} (h : n ≤ 10000) : (segsL (numL n)).all rightS = true := by
  have : ∀ l : List Nat, (∀ j ∈ l, j < 10000) → (segsL (l.map numM)).all rightS = true := by
    intro l
    induction l with
    | nil => intro _; rfl
    | cons j l ih =>
      intro hl
      have hj := rightC_num (hl j List.mem_cons_self)
      rw [List.map_cons, show segsL (numM j :: l.map numM) = segsM (numM j) ++ segsL (l.map numM) from rfl, List.all_append, ih (fun j h => hl j (List.mem_cons_of_mem _ h))]
      show ([headS (numM j), tailS (numM j)].all rightS && true) = true
      rw [Bool.and_true, List.all_cons, List.all_cons, List.all_nil, Bool.and_true, Bool.and_eq_true]
      exact ⟨right3 (by decide) hj kK_right, right3 (by decide) two_right hj⟩
  exact this _ fun j hj => by have := List.mem_range.1 hj; omega
theorem runL_two : ∀ (l : List Segm) (acc : List UInt8), (writeRun l acc).2 = 0 ∨ (writeRun l acc).2 = 3
  | [], acc => .inl rfl
  | s :: l, acc => by
    unfold writeRun
    split
    · exact .inr rfl
    · exact runL_two l _
/-- what Write makes of many messages -/
theorem numL_write {n : Nat} (h : n ≤ 10000) : (2500 < n → writeG (numL n) = (⟨#[]⟩, 5)) ∧ (n ≤ 2500 → (writeG (numL n)).2 = 0 ∨ (writeG (numL n)).2 = 3) := by
  have hl := numL_len n
  have hW : writeG (numL n) = writeL (segsL (numL n)) := by unfold writeG; rw [if_pos (numL_ok h)]
  rw [hW]
  refine ⟨fun h1 => ?_, fun h1 => ?_⟩
  · unfold writeL
    rw [if_pos (by omega)]
  · unfold writeL
    rw [if_neg (by omega), if_pos (numL_right h)]
    exact runL_two _ _
theorem numL_at {n j : Nat} {a : Msg} (h : (numL n)[j]? = some a) : j < n ∧ a = numM j := by
  unfold numL at h
  rw [List.getElem?_map] at h
  obtain ⟨x, hx, rfl⟩ := Option.map_eq_some_iff.1 h
  obtain ⟨h1, h2⟩ := List.getElem?_eq_some_iff.1 hx
  rw [List.length_range] at h1
  rw [List.getElem_range] at h2
  exact ⟨h1, by rw [← h2]⟩
theorem numL_few {n : Nat} (h : n ≤ 10000) : ∀ m ∈ numL n, FewW m := fun m hm => by
  obtain ⟨j, hj, rfl⟩ := List.mem_map.1 hm
  have h0 := List.mem_range.1 hj
  have h1 := itB_size j
  refine ⟨by show kK.size ≤ _; decide, by show (itB j).size ≤ _; omega, fun s hs => by cases hs⟩
end
section
open Go Sat Go.RowKit Go.PlainAid
theorem app_le {a b : ByteArray} {n m : Nat} (ha : a.size ≤ n) (hb : b.size ≤ m) : (a ++ b).size ≤ n + m := by
  rw [ByteArray.size_append]
  omega
theorem set_midZ {α : Type} {xs : List α} {n i : Nat} {a v : α} (h : xs.length = i) (hi : i < n) : (xs ++ List.replicate (n - i) a).set (mulS (i : Int).toNat 1) v = (xs ++ [v]) ++ List.replicate (n - (i + 1)) a := by
  rw [mulS_eq, Int.toNat_natCast, Nat.mul_one, show n - i = (n - (i + 1)) + 1 by omega, List.replicate_succ, List.set_append_right _ _ (by omega), h, Nat.sub_self, List.set_cons_zero, List.append_assoc]
  rfl
def tags6 : List SV := [.v (.string ⟨#[65, 66, 67]⟩), .v (.string ⟨#[72, 69, 68]⟩), .v (.string ⟨#[69, 78, 68]⟩), .v (.string ⟨#[65, 66]⟩), .v (.string ⟨#[65, 66, 67, 68]⟩), .v (.string ⟨#[]⟩)]
theorem tags6_get {k : Nat} (h : k < 6) : ∃ s, (tags6[0 + mulS (k : Int).toNat 1]? = some (.v (.string s)) ∧ (SV.v (.string s)).scal = true) ∧ s.size ≤ 4 := by
  match k, h with
  | 0, _ => exact ⟨_, ⟨rfl, rfl⟩, by decide⟩
  | 1, _ => exact ⟨_, ⟨rfl, rfl⟩, by decide⟩
  | 2, _ => exact ⟨_, ⟨rfl, rfl⟩, by decide⟩
  | 3, _ => exact ⟨_, ⟨rfl, rfl⟩, by decide⟩
  | 4, _ => exact ⟨_, ⟨rfl, rfl⟩, by decide⟩
  | 5, _ => exact ⟨_, ⟨rfl, rfl⟩, by decide⟩
theorem nil_seg (t : ByteArray) {w : World} {B : Nat → Prop} : SegR NSA w B [.string t, .slice none 0 0] (t, []) := ⟨_, rfl, ns_arg nest_nil⟩
def nums6 : List SV := [.v (.int .i64 7), .v (.int .i64 8), .v (.int .i64 9), .v (.int .i64 97), .v (.int .i64 98), .v (.int .i64 99)]
theorem nums6_get {k : Nat} (h : k < 6) : ∃ m : Nat, (nums6[0 + mulS (k : Int).toNat 1]? = some (.v (.int .i64 m)) ∧ (SV.v (.int .i64 m)).scal = true) ∧ m ≤ 99 := by
  match k, h with
  | 0, _ => exact ⟨7, ⟨rfl, rfl⟩, by decide⟩
  | 1, _ => exact ⟨8, ⟨rfl, rfl⟩, by decide⟩
  | 2, _ => exact ⟨9, ⟨rfl, rfl⟩, by decide⟩
  | 3, _ => exact ⟨97, ⟨rfl, rfl⟩, by decide⟩
  | 4, _ => exact ⟨98, ⟨rfl, rfl⟩, by decide⟩
  | 5, _ => exact ⟨99, ⟨rfl, rfl⟩, by decide⟩
theorem exM_bounds : exM.kind.size ≤ 100000 ∧ exM.ref.size ≤ 100000 ∧ exM.segs.length ≤ 12 ∧ ∀ s ∈ exM.segs, s.1.size ≤ 100000 ∧ s.2.length ≤ 1000 ∧ ∀ e ∈ s.2, e.length ≤ 1000 := by
  refine ⟨by decide, by decide, by decide, fun s hs => ?_⟩
  rcases List.mem_cons.1 hs with rfl | hs
  · exact ⟨by decide, by decide, by decide⟩
  rw [List.mem_singleton] at hs
  subst hs
  exact ⟨by decide, by decide, by decide⟩
theorem exM_own2 : OwnB [exM, exM] := ⟨by simp, fun m hm => by
  rcases List.mem_cons.1 hm with rfl | hm
  · exact exM_bounds
  · rw [List.mem_singleton] at hm
    subst hm
    exact exM_bounds⟩
theorem exM_own1 : OwnB [exM, ⟨⟨#[63]⟩, ⟨#[86, 50]⟩, []⟩] := ⟨by simp, fun m hm => by
  rcases List.mem_cons.1 hm with rfl | hm
  · exact exM_bounds
  · rw [List.mem_singleton] at hm
    subst hm
    exact ⟨by decide, by decide, by simp, fun s hs => by cases hs⟩⟩
set_option maxRecDepth 100000 in
set_option maxHeartbeats 16000000 in
theorem limits_any (w : World) (hw : WfT w) : Calls Tryz.prog 7 #[] w fun e w' => e = .returned (.bool true) ∧ Below w.heap.size w w' := by
  refine calls_sat (cx := Tryz.cx 186 [17, 21] [] [] w) (Tryz.ok ..) Tryz.func7 rfl [] rfl (by show 0 ≤ 186; omega) [] (holds_nil (Nat.le_refl _)) ?_
  repeat' ((conv => whnf); first | refine walk (Tryz.ok ..) ?_ | fail)
  refine sat_loop (Tryz.ok ..) (α := Nat) (fun n => ([(1, .yes, .v (.int .i64 n))], [])) (fun n => 12 ≤ n ∧ n ≤ 17) (fun n => 17 - n) (fun _ => rfl) ?_ ?_
  · refine ⟨12, ⟨by omega, by omega⟩, ?_, ?_, rfl⟩
    all_goals ((repeat' (first | exact trivial | exact rfl | refine And.intro ?_ ?_)) <;> (try (conv => whnf)) <;> (try simp only [SV.real, SV.r2, SV.r1]))
  rintro n ⟨hn0, hn⟩
  by_cases hn1 : n < 17
  · obtain ⟨r, hrs, hr⟩ := rep_lit ⟨#[82]⟩ n 1 rfl (by omega) (by omega)
    have l1 : (⟨#[72, 69, 68, 43]⟩ : ByteArray).size = 4 := rfl
    have l2 : (⟨#[43, 65, 66, 67, 68, 69, 70, 39, 69, 78, 68, 43, 50, 43]⟩ : ByteArray).size = 14 := rfl
    have l3 : (⟨#[39]⟩ : ByteArray).size = 1 := rfl
    have c1 : ((⟨#[72, 69, 68, 43]⟩ : ByteArray) ++ r).size ≤ 4 + 10000 := app_le (by omega) hrs
    have c2 : ((⟨#[72, 69, 68, 43]⟩ : ByteArray) ++ r ++ ⟨#[43, 65, 66, 67, 68, 69, 70, 39, 69, 78, 68, 43, 50, 43]⟩).size ≤ 4 + 10000 + 14 := app_le c1 (by omega)
    have c3 : ((⟨#[72, 69, 68, 43]⟩ : ByteArray) ++ r ++ ⟨#[43, 65, 66, 67, 68, 69, 70, 39, 69, 78, 68, 43, 50, 43]⟩ ++ r).size ≤ 4 + 10000 + 14 + 10000 := app_le c2 hrs
    repeat' ((conv => whnf); first | refine walk (Tryz.ok ..) ?_ | (refine Cnd.mk (fun h => ?_) (fun h => ?_) <;> (first | exact cndT h (by (try dsimp only); omega) | exact cndF h (by (try dsimp only); omega) | (exfalso; simp at h; omega) | simp at h | skip)) | fail)
    (conv => whnf)
    refine called_at (.v (.string r)) rfl (fun w' _ => by exact hr w') ?_
    repeat' ((conv => whnf); first | refine walk (Tryz.ok ..) ?_ | refine side2 ?_ | fail)
    (conv => whnf)
    refine called_at (.v (.bool true)) rfl (fun w' hh => by exact readsM_any _ w' (hw.at_ rfl rfl hh)) ?_
    repeat' ((conv => whnf); first | refine side2 ?_ | (with_reducible refine Or.inr (Cnd.mk (fun _ => ?_) (fun h => absurd h (by simp)))) | fail)
    (conv => whnf)
    intro g33 hg33
    repeat' ((conv => whnf); first | (with_reducible refine Or.inr (Cnd.mk (fun _ => ?_) (fun h => absurd h (by simp)))) | fail)
    (conv => whnf)
    refine called_at (.v (.bool true)) rfl (fun w' hh => by exact writes_own [⟨⟨#[65, 66, 67, 68, 69, 70]⟩, r, []⟩] _ w' (hw.at_ rfl rfl hh) (blk_zT (MsgR NSA) hh 33 (g := g33) [⟨⟨#[65, 66, 67, 68, 69, 70]⟩, r, []⟩] [.string ⟨#[65, 66, 67, 68, 69, 70]⟩, .string r, .slice none 0 0] rfl rfl (by unfold maxLen; simp) rfl rfl (at_one (bare_msg _ _))) (ownB_one (by decide) (by omega))) ?_
    repeat' ((conv => whnf); first | refine walk (Tryz.ok ..) ?_ | (refine Cnd.mk (fun h => ?_) (fun h => ?_) <;> (first | exact cndT h (by (try dsimp only); omega) | exact cndF h (by (try dsimp only); omega) | (exfalso; simp at h; omega) | simp at h | skip)) | refine side2 ?_ | refine sideL2 ?_ | fail)
    refine ⟨n + 1, ⟨⟨by omega, hn1⟩, by omega⟩, ?_, ?_, rfl⟩
    all_goals ((repeat' (first | exact trivial | exact rfl | refine And.intro ?_ ?_)) <;> (try (conv => whnf)) <;> (try simp only [SV.real, SV.r2, SV.r1]))
  obtain rfl : n = 17 := by omega
  repeat' ((conv => whnf); first | refine walk (Tryz.ok ..) ?_ | (refine Cnd.mk (fun h => ?_) (fun h => ?_) <;> (first | exact cndT h (by (try dsimp only); omega) | exact cndF h (by (try dsimp only); omega) | (exfalso; simp at h; omega) | simp at h | skip)) | fail)
  (conv => whnf)
  intro g37 hg37
  repeat' ((conv => whnf); first | refine walk (Tryz.ok ..) ?_ | fail)
  refine sat_loop (Tryz.ok ..) (α := Nat) (fun k => ([(37, .yes, .s 37 g37 0 0 6 6), (38, .yes, .v (.int .i64 6)), (39, .yes, .v (.int .i64 k))], [(37, .blk g37 9 tags6)])) (fun k => k ≤ 6) (fun k => 6 - k) (fun _ => rfl) ?_ ?_
  · refine ⟨0, Nat.zero_le _, ?_, ?_, rfl⟩
    all_goals ((repeat' (first | exact trivial | exact rfl | refine And.intro ?_ ?_)) <;> (try (conv => whnf)) <;> (try simp only [SV.real, SV.r2, SV.r1]))
  rintro k hk
  by_cases hk1 : k < 6
  · obtain ⟨x, hx, hxs⟩ := tags6_get hk1
    have l1 : (⟨#[72, 69, 68, 43, 65, 43, 65, 66, 67, 68, 69, 70, 39]⟩ : ByteArray).size = 13 := rfl
    have l2 : (⟨#[43, 97, 39, 69, 78, 68, 43, 51, 43, 65, 39]⟩ : ByteArray).size = 11 := rfl
    have c0 : (x ++ x).size ≤ 4 + 4 := app_le hxs hxs
    have c1 : ((⟨#[72, 69, 68, 43, 65, 43, 65, 66, 67, 68, 69, 70, 39]⟩ : ByteArray) ++ x).size ≤ 13 + 4 := app_le (by omega) hxs
    repeat' ((conv => whnf); first | refine walk (Tryz.ok ..) ?_ | (refine Cnd.mk (fun h => ?_) (fun h => ?_) <;> (first | exact cndT h (by (try dsimp only); omega) | exact cndF h (by (try dsimp only); omega) | (exfalso; simp at h; omega) | simp at h | skip)) | refine side2 ?_ | refine xi _ hx ?_ | fail)
    (conv => whnf)
    intro g45 hg45
    repeat' ((conv => whnf); first | refine side2 ?_ | fail)
    (conv => whnf)
    intro g47 hg47
    skip
    (conv => whnf)
    refine called_at (.v (.bool true)) rfl (fun w' hh => by exact writes_own [⟨⟨#[65, 66, 67, 68, 69, 70]⟩, ⟨#[65]⟩, [(x, [])]⟩] _ w' (hw.at_ rfl rfl hh) (blk_zT (MsgR NSA) hh 47 (g := g47) [⟨⟨#[65, 66, 67, 68, 69, 70]⟩, ⟨#[65]⟩, [(x, [])]⟩] [.string ⟨#[65, 66, 67, 68, 69, 70]⟩, .string ⟨#[65]⟩, .slice (some ⟨g45, 0, none⟩) 1 1] rfl rfl (by unfold maxLen; simp) rfl rfl (at_one ⟨_, rfl, blk_zT (SegR NSA) hh 45 (g := g45) [(x, [])] [.string x, .slice none 0 0] rfl rfl (by unfold maxLen; simp) rfl rfl (at_one (nil_seg x))⟩)) (ownB_seg (by decide) (by decide) (by omega) (by simp) (fun e he => by cases he))) ?_
    repeat' ((conv => whnf); first | refine side2 ?_ | (with_reducible refine Or.inr (Cnd.mk (fun _ => ?_) (fun h => absurd h (by simp)))) | fail)
    (conv => whnf)
    intro g56 hg56
    repeat' ((conv => whnf); first | (with_reducible refine Or.inr (Cnd.mk (fun _ => ?_) (fun h => absurd h (by simp)))) | fail)
    (conv => whnf)
    refine called_at (.v (.bool true)) rfl (fun w' hh => by exact writes_own [⟨x ++ x, ⟨#[65]⟩, []⟩, ⟨⟨#[65, 66, 67, 68, 69, 70]⟩, ⟨#[66]⟩, []⟩] _ w' (hw.at_ rfl rfl hh) (blk_zT (MsgR NSA) hh 56 (g := g56) [⟨x ++ x, ⟨#[65]⟩, []⟩, ⟨⟨#[65, 66, 67, 68, 69, 70]⟩, ⟨#[66]⟩, []⟩] [.string (x ++ x), .string ⟨#[65]⟩, .slice none 0 0, .string ⟨#[65, 66, 67, 68, 69, 70]⟩, .string ⟨#[66]⟩, .slice none 0 0] rfl rfl (by unfold maxLen; simp) rfl rfl (at_two (bare_msg _ _) (bare_msg _ _))) (ownB_two (by omega) (by decide) (by decide) (by decide))) ?_
    repeat' ((conv => whnf); first | refine side2 ?_ | (with_reducible refine Or.inr (Cnd.mk (fun _ => ?_) (fun h => absurd h (by simp)))) | fail)
    (conv => whnf)
    refine called_at (.v (.bool true)) rfl (fun w' hh => by exact readsM_any _ w' (hw.at_ rfl rfl hh)) ?_
    repeat' ((conv => whnf); first | refine walk (Tryz.ok ..) ?_ | (refine Cnd.mk (fun h => ?_) (fun h => ?_) <;> (first | exact cndT h (by (try dsimp only); omega) | exact cndF h (by (try dsimp only); omega) | (exfalso; simp at h; omega) | simp at h | skip)) | refine side2 ?_ | refine sideL2 ?_ | fail)
    refine ⟨k + 1, ⟨hk1, by omega⟩, ?_, ?_, rfl⟩
    all_goals ((repeat' (first | exact trivial | exact rfl | refine And.intro ?_ ?_)) <;> (try (conv => whnf)) <;> (try simp only [SV.real, SV.r2, SV.r1]))
  obtain rfl : k = 6 := by omega
  repeat' ((conv => whnf); first | refine walk (Tryz.ok ..) ?_ | (refine Cnd.mk (fun h => ?_) (fun h => ?_) <;> (first | exact cndT h (by (try dsimp only); omega) | exact cndF h (by (try dsimp only); omega) | (exfalso; simp at h; omega) | simp at h | skip)) | fail)
  refine sat_loop (Tryz.ok ..) (α := Nat) (fun n => ([(5, .yes, .v (.int .i64 n))], [])) (fun n => 27 ≤ n ∧ n ≤ 32) (fun n => 32 - n) (fun _ => rfl) ?_ ?_
  · refine ⟨27, ⟨by omega, by omega⟩, ?_, ?_, rfl⟩
    all_goals ((repeat' (first | exact trivial | exact rfl | refine And.intro ?_ ?_)) <;> (try (conv => whnf)) <;> (try simp only [SV.real, SV.r2, SV.r1]))
  rintro n ⟨hn0, hn⟩
  by_cases hn1 : n < 32
  · obtain ⟨r, hrs, hr⟩ := rep_lit ⟨#[43]⟩ n 1 rfl (by omega) (by omega)
    have l1 : (⟨#[72, 69, 68, 43, 65, 43, 65, 66, 67, 68, 69, 70, 39, 65, 66, 67]⟩ : ByteArray).size = 16 := rfl
    have l2 : (⟨#[39, 69, 78, 68, 43, 51, 43, 65, 39]⟩ : ByteArray).size = 9 := rfl
    have c1 : ((⟨#[72, 69, 68, 43, 65, 43, 65, 66, 67, 68, 69, 70, 39, 65, 66, 67]⟩ : ByteArray) ++ r).size ≤ 16 + 10000 := app_le (by omega) hrs
    have e1 : ((n : Int)).toNat = n := Int.toNat_natCast n
    repeat' ((conv => whnf); first | refine walk (Tryz.ok ..) ?_ | (refine Cnd.mk (fun h => ?_) (fun h => ?_) <;> (first | exact cndT h (by (try dsimp only); omega) | exact cndF h (by (try dsimp only); omega) | (exfalso; simp at h; omega) | simp at h | skip)) | refine side2 ?_ | fail)
    (conv => whnf)
    rw [e1]
    intro g73 hg73
    repeat' ((conv => whnf); first | refine walk (Tryz.ok ..) ?_ | fail)
    refine sat_fuse 77 [] rfl fun w0 hw0 => ?_
    refine sat_ops (Tryz.ok ..) ?_
    repeat' ((conv => whnf); first | refine walk (Tryz.ok ..) ?_ | fail)
    refine sat_loop (Tryz.ok ..) (α := Nat × List Value × World × List Nat) (fun t => ([(5, .yes, .v (.int .i64 n)), (6, .yes, .o 73 (some (g73, 0)) n n), (75, .yes, .v (.int .i64 n)), (76, .yes, .v (.int .i64 t.1))], [(73, .row (some (g73, 0)) 22 1 n n (t.2.1 ++ List.replicate (n - t.1) (.slice none 0 0))), (77, .own t.2.2.2 (Frz t.2.2.1 t.2.2.2))]))
      (fun t => t.1 ≤ n ∧ t.2.1.length = t.1 ∧ Got NE t.2.2.1 t.2.2.2 t.2.1 (List.replicate t.1 [(⟨#[97]⟩ : ByteArray)])) (fun t => n - t.1) (fun _ => rfl) ?_ ?_
    · refine ⟨(0, [], w0, []), ⟨Nat.zero_le _, rfl, Got.nil⟩, ?_, ?_, rfl⟩
      all_goals ((repeat' (first | exact trivial | exact rfl | refine And.intro ?_ ?_)) <;> (try (conv => whnf)) <;> (try simp only [SV.real, SV.r2, SV.r1]))
      all_goals rw [show Value.cells (.slice none 0 0) = #[.slice none 0 0] from rfl, toList_madeCells_one, Nat.mul_one]
      all_goals rfl
    rintro ⟨k, xs, w1, gs1⟩ ⟨hk, hxl, hgot⟩
    dsimp only at hk hxl hgot ⊢
    by_cases hk1 : k < n
    · repeat' ((conv => whnf); first | refine walk (Tryz.ok ..) ?_ | (refine Cnd.mk (fun h => ?_) (fun h => ?_) <;> (first | exact cndT h (by (try dsimp only); omega) | exact cndF h (by (try dsimp only); omega) | (exfalso; simp at h; omega) | simp at h | skip)) | fail)
      (conv => whnf)
      intro g81 hg81
      repeat' ((conv => whnf); first | refine side2 ?_ | fail)
      (conv => whnf)
      have hlt : mulS (k : Int).toNat 1 < (xs ++ List.replicate (n - k) (Value.slice none 0 0)).length := by
        rw [mulS_eq, Int.toNat_natCast, List.length_append, List.length_replicate]
        omega
      refine ⟨hlt, ?_⟩
      repeat' ((conv => whnf); first | refine walk (Tryz.ok ..) ?_ | fail)
      refine sat_fuse 77 [77, 81] rfl fun w4 hw4 => ?_
      have h81 := blk_ownN Text [77, 81] 81 (g := g81) (n := 1) [(⟨#[97]⟩ : ByteArray)] [.string ⟨#[97]⟩] hw4 rfl rfl rfl (by unfold maxLen; simp) rfl ⟨rfl, trivial⟩
      have hgot' := (hgot.fuse ne_stays [77, 81] 77 hw4 rfl rfl).ext (by rw [hxl, List.length_replicate]) h81
      refine sat_ops (Tryz.ok ..) ?_
      repeat' ((conv => whnf); first | refine sideL2 ?_ | fail)
      refine ⟨(k + 1, xs ++ [.slice (some ⟨g81, 0, none⟩) 1 1], w4, _), ⟨⟨hk1, by rw [List.length_append, hxl]; rfl, by rw [List.replicate_succ']; exact hgot'⟩, by show n - (k + 1) < n - k; omega⟩, ?_, ?_, rfl⟩
      all_goals ((repeat' (first | exact trivial | exact rfl | refine And.intro ?_ ?_)) <;> (try (conv => whnf)) <;> (try simp only [SV.real, SV.r2, SV.r1]))
      exact set_midZ hxl hk1
    obtain rfl : k = n := by omega
    have hE : xs ++ List.replicate (k - k) (Value.slice none 0 0) = xs := by rw [Nat.sub_self, List.replicate_zero, List.append_nil]
    rw [hE]
    repeat' ((conv => whnf); first | refine walk (Tryz.ok ..) ?_ | (refine Cnd.mk (fun h => ?_) (fun h => ?_) <;> (first | exact cndT h (by (try dsimp only); omega) | exact cndF h (by (try dsimp only); omega) | (exfalso; simp at h; omega) | simp at h | skip)) | refine side2 ?_ | fail)
    (conv => whnf)
    intro g86 hg86
    repeat' ((conv => whnf); first | refine side2 ?_ | fail)
    (conv => whnf)
    intro g88 hg88
    skip
    (conv => whnf)
    refine called_at (.v (.bool true)) rfl (fun w' hh => by exact writes_own [⟨kK, ⟨#[65]⟩, [(⟨#[65, 66, 67]⟩, List.replicate k [(⟨#[97]⟩ : ByteArray)])]⟩] _ w' (hw.at_ rfl rfl hh) (blk_zT (MsgR NSA) hh 88 (g := g88) [⟨kK, ⟨#[65]⟩, [(⟨#[65, 66, 67]⟩, List.replicate k [(⟨#[97]⟩ : ByteArray)])]⟩] [.string kK, .string ⟨#[65]⟩, .slice (some ⟨g86, 0, none⟩) 1 1] rfl rfl (by unfold maxLen; simp) rfl rfl (at_one ⟨_, rfl, blk_zT (SegR NSA) hh 86 (g := g86) [(⟨#[65, 66, 67]⟩, List.replicate k [(⟨#[97]⟩ : ByteArray)])] [.string ⟨#[65, 66, 67]⟩, .slice (some ⟨g73, 0, none⟩) k k] rfl rfl (by unfold maxLen; simp) rfl rfl (at_one ⟨_, rfl, ns_arg (nest_top ne_stays hh 73 77 (A := some (g73, 0)) rfl rfl hgot (by simp))⟩)⟩)) (ownB_seg (by decide) (by decide) (by decide) (by simp; omega) (fun e he => by rw [List.eq_of_mem_replicate he]; simp))) ?_
    repeat' ((conv => whnf); first | refine side2 ?_ | (with_reducible refine Or.inr (Cnd.mk (fun _ => ?_) (fun h => absurd h (by simp)))) | fail)
    (conv => whnf)
    refine called_at (.v (.string r)) rfl (fun w' _ => by exact hr w') ?_
    repeat' ((conv => whnf); first | refine side2 ?_ | (with_reducible refine Or.inr (Cnd.mk (fun _ => ?_) (fun h => absurd h (by simp)))) | fail)
    (conv => whnf)
    refine called_at (.v (.bool true)) rfl (fun w' hh => by exact readsM_any _ w' (hw.at_ rfl rfl hh)) ?_
    repeat' ((conv => whnf); first | refine walk (Tryz.ok ..) ?_ | (refine Cnd.mk (fun h => ?_) (fun h => ?_) <;> (first | exact cndT h (by (try dsimp only); omega) | exact cndF h (by (try dsimp only); omega) | (exfalso; simp at h; omega) | simp at h | skip)) | refine side2 ?_ | refine sideL2 ?_ | fail)
    refine ⟨k + 1, ⟨⟨by omega, hn1⟩, by omega⟩, ?_, ?_, rfl⟩
    all_goals ((repeat' (first | exact trivial | exact rfl | refine And.intro ?_ ?_)) <;> (try (conv => whnf)) <;> (try simp only [SV.real, SV.r2, SV.r1]))
  obtain rfl : n = 32 := by omega
  repeat' ((conv => whnf); first | refine walk (Tryz.ok ..) ?_ | (refine Cnd.mk (fun h => ?_) (fun h => ?_) <;> (first | exact cndT h (by (try dsimp only); omega) | exact cndF h (by (try dsimp only); omega) | (exfalso; simp at h; omega) | simp at h | skip)) | fail)
  refine sat_loop (Tryz.ok ..) (α := Nat) (fun n => ([(8, .yes, .v (.int .i64 n))], [])) (fun n => 2496 ≤ n ∧ n ≤ 2503) (fun n => 2503 - n) (fun _ => rfl) ?_ ?_
  · refine ⟨2496, ⟨by omega, by omega⟩, ?_, ?_, rfl⟩
    all_goals ((repeat' (first | exact trivial | exact rfl | refine And.intro ?_ ?_)) <;> (try (conv => whnf)) <;> (try simp only [SV.real, SV.r2, SV.r1]))
  rintro n ⟨hn0, hn⟩
  by_cases hn1 : n < 2503
  · repeat' ((conv => whnf); first | refine walk (Tryz.ok ..) ?_ | (refine Cnd.mk (fun h => ?_) (fun h => ?_) <;> (first | exact cndT h (by (try dsimp only); omega) | exact cndF h (by (try dsimp only); omega) | (exfalso; simp at h; omega) | simp at h | skip)) | fail)
    refine sat_loop (Tryz.ok ..) (α := Nat × Option (Nat × Nat) × Nat × List Value) (fun t => ([(8, .yes, .v (.int .i64 n)), (9, .yes, .o 90 t.2.1 t.1 t.2.2.1), (10, .yes, .v (.int .i64 t.1))], [(90, .row t.2.1 28 3 t.1 t.2.2.1 t.2.2.2)]))
      (fun t => t.1 ≤ n ∧ t.2.2.2.length = t.1 * 3 ∧ ∀ j, j < t.1 → cut1 t.2.2.2 3 j = [.string kK, .string (itB (j : Nat)), .slice none 0 0]) (fun t => n - t.1) (fun _ => rfl) ?_ ?_
    · refine ⟨(0, none, 0, []), ⟨Nat.zero_le _, rfl, fun j h => by omega⟩, ?_, ?_, rfl⟩
      all_goals ((repeat' (first | exact trivial | exact rfl | refine And.intro ?_ ?_)) <;> (try (conv => whnf)) <;> (try simp only [SV.real, SV.r2, SV.r1]))
    rintro ⟨i, A, cap, xs⟩ ⟨hi, hxl, hxs⟩
    dsimp only at hi hxl hxs ⊢
    by_cases hi1 : i < n
    · repeat' ((conv => whnf); first | refine walk (Tryz.ok ..) ?_ | (refine Cnd.mk (fun h => ?_) (fun h => ?_) <;> (first | exact cndT h (by (try dsimp only); omega) | exact cndF h (by (try dsimp only); omega) | (exfalso; simp at h; omega) | simp at h | skip)) | fail)
      (conv => whnf)
      refine called_at (.v (.string (itB (i : Nat)))) rfl (fun w' hh => by exact itoa_all (hw.at_ rfl rfl hh) _ (by omega) (by omega)) ?_
      repeat' ((conv => whnf); first | refine side2 ?_ | fail)
      (conv => whnf)
      intro g112 hg112
      repeat' ((conv => whnf); first | refine side2 ?_ | refine Or.inr ?_ | fail)
      (conv => whnf)
      intro A113 c113
      repeat' ((conv => whnf); first | refine walk (Tryz.ok ..) ?_ | refine sideL2 ?_ | fail)
      have hnew : ∀ j, j < i + 1 → cut1 (xs ++ [.string kK, .string (itB (i : Nat)), .slice none 0 0]) 3 j = [.string kK, .string (itB (j : Nat)), .slice none 0 0] := by
        intro j hj
        rcases Nat.lt_or_ge j i with h1 | h1
        · exact (cut1_old hxl h1).trans (hxs j h1)
        · obtain rfl : j = i := by omega
          exact cut1_new hxl rfl
      refine ⟨(i + 1, A113, c113, xs ++ [.string kK, .string (itB (i : Nat)), .slice none 0 0]), ⟨⟨hi1, by rw [List.length_append, hxl]; simp; omega, hnew⟩, by show n - (i + 1) < n - i; omega⟩, ?_, ?_, rfl⟩
      all_goals ((repeat' (first | exact trivial | exact rfl | refine And.intro ?_ ?_)) <;> (try (conv => whnf)) <;> (try simp only [SV.real, SV.r2, SV.r1]))
    obtain rfl : i = n := by omega
    obtain ⟨hbig, hsmall⟩ := numL_write (n := i) (by omega)
    obtain ⟨tx, te, hW⟩ : ∃ tx te, writeG (numL i) = (tx, te) := ⟨_, _, rfl⟩
    have hll : (numL i).length = i := by unfold numL; simp
    repeat' ((conv => whnf); first | refine walk (Tryz.ok ..) ?_ | (refine Cnd.mk (fun h => ?_) (fun h => ?_) <;> (first | exact cndT h (by (try dsimp only); omega) | exact cndF h (by (try dsimp only); omega) | (exfalso; simp at h; omega) | simp at h | skip)) | fail)
    (conv => whnf)
    refine called_at (.t [.v (.string tx), .v (.int .i64 te)]) rfl (fun w' hh => by
      refine writeG_lit hW (.slice (adr A) i cap) w' (hw.at_ rfl rfl hh) ?_ (numL_few (by omega)) (by rw [numL_len]; omega)
      refine ⟨adr A, A, cap, xs, by rw [hll], AtN.refl _ _, by rw [hll]; exact row_caps hh (id := 90) rfl, by rw [hll]; exact ro_of_row hh (id := 90) rfl, fun _ _ _ => trivial, fun j a ha => ?_⟩
      obtain ⟨hj, rfl⟩ := numL_at ha
      rw [hxs j hj]
      exact bare_msg _ _) ?_
    by_cases h25 : 2500 < i
    · rw [hbig h25] at hW
      cases hW
      repeat' ((conv => whnf); first | refine walk (Tryz.ok ..) ?_ | (refine Cnd.mk (fun h => ?_) (fun h => ?_) <;> (first | exact cndT h (by (try dsimp only); omega) | exact cndF h (by (try dsimp only); omega) | (exfalso; simp at h; omega) | simp at h | skip)) | refine side2 ?_ | refine sideL2 ?_ | fail)
      refine ⟨i + 1, ⟨⟨by omega, hn1⟩, by omega⟩, ?_, ?_, rfl⟩
      all_goals ((repeat' (first | exact trivial | exact rfl | refine And.intro ?_ ?_)) <;> (try (conv => whnf)) <;> (try simp only [SV.real, SV.r2, SV.r1]))
    · have hs := hsmall (by omega)
      rw [hW] at hs
      have hs : te = 0 ∨ te = 3 := hs
      rcases hs with rfl | rfl
      · repeat' ((conv => whnf); first | refine walk (Tryz.ok ..) ?_ | (refine Cnd.mk (fun h => ?_) (fun h => ?_) <;> (first | exact cndT h (by (try dsimp only); omega) | exact cndF h (by (try dsimp only); omega) | (exfalso; simp at h; omega) | simp at h | skip)) | refine side2 ?_ | refine sideL2 ?_ | fail)
        refine ⟨i + 1, ⟨⟨by omega, hn1⟩, by omega⟩, ?_, ?_, rfl⟩
        all_goals ((repeat' (first | exact trivial | exact rfl | refine And.intro ?_ ?_)) <;> (try (conv => whnf)) <;> (try simp only [SV.real, SV.r2, SV.r1]))
      · repeat' ((conv => whnf); first | refine walk (Tryz.ok ..) ?_ | (refine Cnd.mk (fun h => ?_) (fun h => ?_) <;> (first | exact cndT h (by (try dsimp only); omega) | exact cndF h (by (try dsimp only); omega) | (exfalso; simp at h; omega) | simp at h | skip)) | refine side2 ?_ | refine sideL2 ?_ | fail)
        refine ⟨i + 1, ⟨⟨by omega, hn1⟩, by omega⟩, ?_, ?_, rfl⟩
        all_goals ((repeat' (first | exact trivial | exact rfl | refine And.intro ?_ ?_)) <;> (try (conv => whnf)) <;> (try simp only [SV.real, SV.r2, SV.r1]))
  obtain rfl : n = 2503 := by omega
  repeat' ((conv => whnf); first | refine walk (Tryz.ok ..) ?_ | (refine Cnd.mk (fun h => ?_) (fun h => ?_) <;> (first | exact cndT h (by (try dsimp only); omega) | exact cndF h (by (try dsimp only); omega) | (exfalso; simp at h; omega) | simp at h | skip)) | fail)
  (conv => whnf)
  intro g141 hg141
  repeat' ((conv => whnf); first | refine walk (Tryz.ok ..) ?_ | fail)
  refine sat_loop (Tryz.ok ..) (α := Nat) (fun k => ([(141, .yes, .s 141 g141 0 0 6 6), (142, .yes, .v (.int .i64 6)), (143, .yes, .v (.int .i64 k))], [(141, .blk g141 3 nums6)])) (fun k => k ≤ 6) (fun k => 6 - k) (fun _ => rfl) ?_ ?_
  · refine ⟨0, Nat.zero_le _, ?_, ?_, rfl⟩
    all_goals ((repeat' (first | exact trivial | exact rfl | refine And.intro ?_ ?_)) <;> (try (conv => whnf)) <;> (try simp only [SV.real, SV.r2, SV.r1]))
  rintro k hk
  by_cases hk1 : k < 6
  · obtain ⟨m, hx, hm⟩ := nums6_get hk1
    obtain ⟨r, hrs, hr⟩ := rep_lit ⟨#[65, 66, 67, 39]⟩ m 4 rfl (by omega) (by omega)
    obtain ⟨t, ht, hti⟩ : ∃ t : ByteArray, t.size ≤ 110 ∧ ∀ w, WfT w → Calls Tryz.prog 26 #[.int .i64 (m + 2)] w fun e w' => e = .returned (.string t) ∧ Below w.heap.size w w' :=
      ⟨itB ((m + 2 : Nat) : Int), by have := itB_size (m + 2); omega, fun w hw => itoa_all hw _ (by omega) (by omega)⟩
    have l1 : (⟨#[72, 69, 68, 43, 65, 43, 65, 66, 67, 68, 69, 70, 39]⟩ : ByteArray).size = 13 := rfl
    have l2 : (⟨#[69, 78, 68, 43]⟩ : ByteArray).size = 4 := rfl
    have l3 : (⟨#[43, 65, 39]⟩ : ByteArray).size = 3 := rfl
    have l4 : (⟨#[69, 78, 68, 43, 48]⟩ : ByteArray).size = 5 := rfl
    have c1 : ((⟨#[72, 69, 68, 43, 65, 43, 65, 66, 67, 68, 69, 70, 39]⟩ : ByteArray) ++ r).size ≤ 13 + 10000 := app_le (by omega) hrs
    have c2 : ((⟨#[72, 69, 68, 43, 65, 43, 65, 66, 67, 68, 69, 70, 39]⟩ : ByteArray) ++ r ++ ⟨#[69, 78, 68, 43]⟩).size ≤ 13 + 10000 + 4 := app_le c1 (by omega)
    have c3 : ((⟨#[72, 69, 68, 43, 65, 43, 65, 66, 67, 68, 69, 70, 39]⟩ : ByteArray) ++ r ++ ⟨#[69, 78, 68, 43]⟩ ++ t).size ≤ 13 + 10000 + 4 + 110 := app_le c2 ht
    have d2 : ((⟨#[72, 69, 68, 43, 65, 43, 65, 66, 67, 68, 69, 70, 39]⟩ : ByteArray) ++ r ++ ⟨#[69, 78, 68, 43, 48]⟩).size ≤ 13 + 10000 + 5 := app_le c1 (by omega)
    have d3 : ((⟨#[72, 69, 68, 43, 65, 43, 65, 66, 67, 68, 69, 70, 39]⟩ : ByteArray) ++ r ++ ⟨#[69, 78, 68, 43, 48]⟩ ++ t).size ≤ 13 + 10000 + 5 + 110 := app_le d2 ht
    repeat' ((conv => whnf); first | refine walk (Tryz.ok ..) ?_ | (refine Cnd.mk (fun h => ?_) (fun h => ?_) <;> (first | exact cndT h (by (try dsimp only); omega) | exact cndF h (by (try dsimp only); omega) | (exfalso; simp at h; omega) | simp at h | skip)) | refine side2 ?_ | refine xi _ hx ?_ | fail)
    (conv => whnf)
    refine called_at (.v (.string r)) rfl (fun w' _ => by exact hr w') ?_
    repeat' ((conv => whnf); first | refine side2 ?_ | refine sideL2 ?_ | fail)
    (conv => whnf)
    refine called_at (.v (.string t)) rfl (fun w' hh => by exact hti w' (hw.at_ rfl rfl hh)) ?_
    repeat' ((conv => whnf); first | refine side2 ?_ | fail)
    (conv => whnf)
    refine called_at (.v (.bool true)) rfl (fun w' hh => by exact readsM_any _ w' (hw.at_ rfl rfl hh)) ?_
    repeat' ((conv => whnf); first | refine side2 ?_ | (with_reducible refine Or.inr (Cnd.mk (fun _ => ?_) (fun h => absurd h (by simp)))) | fail)
    (conv => whnf)
    refine called_at (.v (.string r)) rfl (fun w' _ => by exact hr w') ?_
    repeat' ((conv => whnf); first | refine side2 ?_ | (with_reducible refine Or.inr (Cnd.mk (fun _ => ?_) (fun h => absurd h (by simp)))) | refine sideL2 ?_ | fail)
    (conv => whnf)
    refine called_at (.v (.string t)) rfl (fun w' hh => by exact hti w' (hw.at_ rfl rfl hh)) ?_
    repeat' ((conv => whnf); first | refine side2 ?_ | (with_reducible refine Or.inr (Cnd.mk (fun _ => ?_) (fun h => absurd h (by simp)))) | fail)
    (conv => whnf)
    refine called_at (.v (.bool true)) rfl (fun w' hh => by exact readsM_any _ w' (hw.at_ rfl rfl hh)) ?_
    repeat' ((conv => whnf); first | refine walk (Tryz.ok ..) ?_ | (refine Cnd.mk (fun h => ?_) (fun h => ?_) <;> (first | exact cndT h (by (try dsimp only); omega) | exact cndF h (by (try dsimp only); omega) | (exfalso; simp at h; omega) | simp at h | skip)) | refine side2 ?_ | refine sideL2 ?_ | fail)
    refine ⟨k + 1, ⟨hk1, by omega⟩, ?_, ?_, rfl⟩
    all_goals ((repeat' (first | exact trivial | exact rfl | refine And.intro ?_ ?_)) <;> (try (conv => whnf)) <;> (try simp only [SV.real, SV.r2, SV.r1]))
  obtain rfl : k = 6 := by omega
  repeat' ((conv => whnf); first | refine walk (Tryz.ok ..) ?_ | (refine Cnd.mk (fun h => ?_) (fun h => ?_) <;> (first | exact cndT h (by (try dsimp only); omega) | exact cndF h (by (try dsimp only); omega) | (exfalso; simp at h; omega) | simp at h | skip)) | fail)
  (conv => whnf)
  refine called_nest 900 (mk := fun v => .agg #[.string exM.kind, .string exM.ref, v]) (Q := fun w B v => NSegs NS w B v exM.segs) (fun v => .a [.v (.string exM.kind), .v (.string exM.ref), .v v]) (fun _ => rfl) (fun w' _ => by exact example_any w') ?_
  intro w1 gs1 v1 h1
  obtain ⟨va, vn, vc, rfl⟩ := nsegs_sl h1
  skip
  (conv => whnf)
  intro g15 hg15
  repeat' ((conv => whnf); first | refine walk (Tryz.ok ..) ?_ | refine side2 ?_ | fail)
  (conv => whnf)
  intro g175 hg175
  skip
  (conv => whnf)
  refine called_at (.v (.bool true)) rfl (fun w' hh => by exact writes_own [exM, exM] _ w' (hw.at_ rfl rfl hh) (blk_zT (MsgR NSA) hh 175 (g := g175) [exM, exM] [.string exM.kind, .string exM.ref, .slice va vn vc, .string exM.kind, .string exM.ref, .slice va vn vc] rfl rfl (by unfold maxLen; simp) rfl rfl (at_two ⟨.slice va vn vc, rfl, nsegs_arg (frz_nest (nsegs_stays ns_stays) h1 (d := 900) rfl hh)⟩ ⟨.slice va vn vc, rfl, nsegs_arg (frz_nest (nsegs_stays ns_stays) h1 (d := 900) rfl hh)⟩)) exM_own2) ?_
  repeat' ((conv => whnf); first | refine side2 ?_ | (with_reducible refine Or.inr (Cnd.mk (fun _ => ?_) (fun h => absurd h (by simp)))) | fail)
  (conv => whnf)
  intro g180 hg180
  repeat' ((conv => whnf); first | (with_reducible refine Or.inr (Cnd.mk (fun _ => ?_) (fun h => absurd h (by simp)))) | fail)
  (conv => whnf)
  refine called_at (.v (.bool true)) rfl (fun w' hh => by exact writes_own [exM, ⟨⟨#[63]⟩, ⟨#[86, 50]⟩, []⟩] _ w' (hw.at_ rfl rfl hh) (blk_zT (MsgR NSA) hh 180 (g := g180) [exM, ⟨⟨#[63]⟩, ⟨#[86, 50]⟩, []⟩] [.string exM.kind, .string exM.ref, .slice va vn vc, .string ⟨#[63]⟩, .string ⟨#[86, 50]⟩, .slice none 0 0] rfl rfl (by unfold maxLen; simp) rfl rfl (at_two ⟨.slice va vn vc, rfl, nsegs_arg (frz_nest (nsegs_stays ns_stays) h1 (d := 900) rfl hh)⟩ (bare_msg _ _))) exM_own1) ?_
  repeat' ((conv => whnf); first | (with_reducible refine Or.inr (Cnd.mk (fun _ => ?_) (fun h => absurd h (by simp)))) | fail)
  (conv => whnf)
  refine called_at (.v (.bool true)) rfl (fun w' hh => by exact writes_own [] (.slice none 0 0) w' (hw.at_ rfl rfl hh) nestz_nil ⟨by simp, fun m hm => by cases hm⟩) ?_
  repeat' ((conv => whnf); first | refine walk (Tryz.ok ..) ?_ | fail)
  exact done_pure rfl rfl rfl
end
section
open Go Sat Go.RowKit Go.PlainAid
def tags12 : List SV := [.v (.string ⟨#[]⟩), .v (.string ⟨#[72, 69, 68, 43, 65, 43, 65, 66, 67, 68, 69, 70, 39]⟩), .v (.string ⟨#[72, 69, 68, 43, 66, 43, 65, 66, 67, 68, 69, 70, 39]⟩), .v (.string ⟨#[69, 78, 68, 43, 50, 43, 65, 39]⟩), .v (.string ⟨#[69, 78, 68, 43, 51, 43, 65, 39]⟩), .v (.string ⟨#[69, 78, 68, 43, 50, 43, 66, 39]⟩), .v (.string ⟨#[88, 89, 90, 43, 49, 39]⟩), .v (.string ⟨#[88, 89, 39]⟩), .v (.string ⟨#[72, 69, 68, 58, 43, 65, 58, 43, 65, 66, 67, 68, 69, 70, 43, 39]⟩), .v (.string ⟨#[69, 78, 68, 43, 51, 58, 43, 65, 39]⟩), .v (.string ⟨#[72, 69, 68, 43, 65, 39]⟩), .v (.string ⟨#[39]⟩)]
theorem tags12_get {k : Int} (h0 : 0 ≤ k) (h : k < 12) : ∃ s, (tags12[0 + mulS k.toNat 1]? = some (.v (.string s)) ∧ (SV.v (.string s)).scal = true) ∧ s.size ≤ 16 := by
  obtain ⟨k, rfl⟩ := Int.eq_ofNat_of_zero_le h0
  have h : k < 12 := by omega
  match k, h with
  | 0, _ => exact ⟨_, ⟨rfl, rfl⟩, by decide⟩
  | 1, _ => exact ⟨_, ⟨rfl, rfl⟩, by decide⟩
  | 2, _ => exact ⟨_, ⟨rfl, rfl⟩, by decide⟩
  | 3, _ => exact ⟨_, ⟨rfl, rfl⟩, by decide⟩
  | 4, _ => exact ⟨_, ⟨rfl, rfl⟩, by decide⟩
  | 5, _ => exact ⟨_, ⟨rfl, rfl⟩, by decide⟩
  | 6, _ => exact ⟨_, ⟨rfl, rfl⟩, by decide⟩
  | 7, _ => exact ⟨_, ⟨rfl, rfl⟩, by decide⟩
  | 8, _ => exact ⟨_, ⟨rfl, rfl⟩, by decide⟩
  | 9, _ => exact ⟨_, ⟨rfl, rfl⟩, by decide⟩
  | 10, _ => exact ⟨_, ⟨rfl, rfl⟩, by decide⟩
  | 11, _ => exact ⟨_, ⟨rfl, rfl⟩, by decide⟩
def tags3 : List SV := [.v (.string ⟨#[]⟩), .v (.string ⟨#[]⟩), .v (.string ⟨#[97]⟩)]
theorem tags3_get {k : Int} (h0 : 0 ≤ k) (h : k < 3) : ∃ s, (tags3[0 + mulS k.toNat 1]? = some (.v (.string s)) ∧ (SV.v (.string s)).scal = true) ∧ s.size ≤ 16 := by
  obtain ⟨k, rfl⟩ := Int.eq_ofNat_of_zero_le h0
  have h : k < 3 := by omega
  match k, h with
  | 0, _ => exact ⟨_, ⟨rfl, rfl⟩, by decide⟩
  | 1, _ => exact ⟨_, ⟨rfl, rfl⟩, by decide⟩
  | 2, _ => exact ⟨_, ⟨rfl, rfl⟩, by decide⟩
/-- five strings in a block -/
theorem five_get {a b c d e : ByteArray} {k : Nat} (h : k < 5) : ∃ s, ([SV.v (.string a), .v (.string b), .v (.string c), .v (.string d), .v (.string e)][0 + mulS (k : Int).toNat 1]? = some (.v (.string s)) ∧ (SV.v (.string s)).scal = true) := by
  match k, h with
  | 0, _ => exact ⟨_, ⟨rfl, rfl⟩⟩
  | 1, _ => exact ⟨_, ⟨rfl, rfl⟩⟩
  | 2, _ => exact ⟨_, ⟨rfl, rfl⟩⟩
  | 3, _ => exact ⟨_, ⟨rfl, rfl⟩⟩
  | 4, _ => exact ⟨_, ⟨rfl, rfl⟩⟩
/-- the first few of what is owned -/
theorem ns_cut {w : World} {B : Nat → Prop} {a : Option Addr} {n cap m : Nat} {l : Dat} (h : NSA w B (.slice a n cap) l) (hm : m ≤ n) : NSA w B (.slice a m cap) (l.take m) := by
  obtain ⟨A', A, c, xs, hv, aA, hc, hr, hB, hx⟩ := h
  injection hv with h1 h2 h3
  subst h1 h2 h3
  have e : (l.take m).length = m := by rw [List.length_take]; omega
  refine ⟨_, A, _, xs.take m, by rw [e], ?_, ⟨by omega, hc.2⟩, by rw [e]; exact ro_take hr hm, fun p hp h0 => hB p hp (by omega), fun i x b hx' hb => ?_⟩
  · rw [e]
    exact ⟨fun h0 => aA.at_ (by omega)⟩
  · rw [List.getElem?_take] at hx' hb
    split at hx'
    · next h1 =>
      rw [if_pos h1] at hb
      exact hx i x b hx' hb
    · cases hx'
end
section
open Go Sat Go.RowKit Go.PlainAid
set_option maxRecDepth 100000 in
set_option maxHeartbeats 16000000 in
theorem segmentSmall_any (w : World) (hw : WfT w) : Calls Tryz.prog 3 #[] w fun e w' => e = .returned (.bool true) ∧ Below w.heap.size w w' := by
  refine calls_sat (cx := Tryz.cx 186 [13, 27] [] [] w) (Tryz.ok ..) Tryz.func3 rfl [] rfl (by show 0 ≤ 186; omega) [] (holds_nil (Nat.le_refl _)) ?_
  repeat' ((conv => whnf); first | refine walk (Tryz.ok ..) ?_ | fail)
  (conv => whnf)
  intro g14 hg14
  repeat' ((conv => whnf); first | refine walk (Tryz.ok ..) ?_ | fail)
  refine sat_loop (Tryz.ok ..) (α := Nat) (fun n => ([(1, .yes, .s 14 g14 0 0 12 12), (2, .yes, .v (.int .i64 n))], [(14, .blk g14 9 tags12)])) (fun n => n ≤ 248832) (fun n => 248832 - n) (fun _ => rfl) ?_ ?_
  · refine ⟨0, by omega, ?_, ?_, rfl⟩
    all_goals ((repeat' (first | exact trivial | exact rfl | refine And.intro ?_ ?_)) <;> (try (conv => whnf)) <;> (try simp only [SV.real, SV.r2, SV.r1]))
  rintro n hn
  by_cases hn1 : n < 248832
  · obtain ⟨s0, hx0, hs0⟩ := tags12_get (k := (n : Int) % 12) (by omega) (by omega)
    obtain ⟨s1, hx1, hs1⟩ := tags12_get (k := (n : Int) / 12 % 12) (by omega) (by omega)
    obtain ⟨s2, hx2, hs2⟩ := tags12_get (k := (n : Int) / 144 % 12) (by omega) (by omega)
    obtain ⟨s3, hx3, hs3⟩ := tags12_get (k := (n : Int) / 1728 % 12) (by omega) (by omega)
    obtain ⟨s4, hx4, hs4⟩ := tags12_get (k := (n : Int) / 20736) (by omega) (by omega)
    have c1 : (s0 ++ s1).size ≤ 16 + 16 := app_le hs0 hs1
    have c2 : (s0 ++ s1 ++ s2).size ≤ 16 + 16 + 16 := app_le c1 hs2
    have c3 : (s0 ++ s1 ++ s2 ++ s3).size ≤ 16 + 16 + 16 + 16 := app_le c2 hs3
    have hb : ((n : Nat) : Int) < 248832 := by omega
    repeat' ((conv => whnf); first | (with_reducible refine Cnd.mk (fun _ => ?_) (fun h => absurd hb (of_decide_eq_false h))) | refine walk (Tryz.ok ..) ?_ | (refine Cnd.mk (fun h => ?_) (fun h => ?_) <;> (first | exact cndT h (by (try dsimp only); omega) | exact cndF h (by (try dsimp only); omega) | (exfalso; simp at h; omega) | simp at h | skip)) | refine side2 ?_ | refine sideL2 ?_ | refine xi _ hx0 ?_ | refine xi _ hx1 ?_ | refine xi _ hx2 ?_ | refine xi _ hx3 ?_ | refine xi _ hx4 ?_ | fail)
    · skip
      refine ⟨n + 1, ⟨by omega, by omega⟩, ?_, ?_, rfl⟩
      all_goals ((repeat' (first | exact trivial | exact rfl | refine And.intro ?_ ?_)) <;> (try (conv => whnf)) <;> (try simp only [SV.real, SV.r2, SV.r1]))
    · skip
      (conv => whnf)
      refine called_at (.v (.bool true)) rfl (fun w' hh => by exact readsM_any _ w' (hw.at_ rfl rfl hh)) ?_
      repeat' ((conv => whnf); first | refine walk (Tryz.ok ..) ?_ | (refine Cnd.mk (fun h => ?_) (fun h => ?_) <;> (first | exact cndT h (by (try dsimp only); omega) | exact cndF h (by (try dsimp only); omega) | (exfalso; simp at h; omega) | simp at h | skip)) | refine sideL2 ?_ | fail)
      refine ⟨n + 1, ⟨by omega, by omega⟩, ?_, ?_, rfl⟩
      all_goals ((repeat' (first | exact trivial | exact rfl | refine And.intro ?_ ?_)) <;> (try (conv => whnf)) <;> (try simp only [SV.real, SV.r2, SV.r1]))
  have hb : ¬ ((n : Nat) : Int) < 248832 := by omega
  repeat' ((conv => whnf); first | (with_reducible refine Cnd.mk (fun h => absurd (of_decide_eq_true h) hb) (fun hX => ?_)) | refine walk (Tryz.ok ..) ?_ | fail)
  clear hX hb hn1 hn
  refine sat_loop (Tryz.ok ..) (α := Nat) (fun b => ([(4, .yes, .v (.int .i64 b))], [])) (fun b => b ≤ 256) (fun b => 256 - b) (fun _ => rfl) ?_ ?_
  · refine ⟨0, by omega, ?_, ?_, rfl⟩
    all_goals ((repeat' (first | exact trivial | exact rfl | refine And.intro ?_ ?_)) <;> (try (conv => whnf)) <;> (try simp only [SV.real, SV.r2, SV.r1]))
  rintro b hb
  by_cases hb1 : b < 256
  · repeat' ((conv => whnf); first | refine walk (Tryz.ok ..) ?_ | (refine Cnd.mk (fun h => ?_) (fun h => ?_) <;> (first | exact cndT h (by (try dsimp only); omega) | exact cndF h (by (try dsimp only); omega) | (exfalso; simp at h; omega) | simp at h | skip)) | refine sideL2 ?_ | fail)
    skip
    (conv => whnf)
    intro g67 hg67
    repeat' ((conv => whnf); first | refine walk (Tryz.ok ..) ?_ | refine side2 ?_ | refine Exists.intro [_] (And.intro (one_byte rfl) ?_) | fail)
    (conv => whnf)
    have hs1 := strOf_len [(b : Int)]
    generalize strOf [(b : Int)] = s at hs1 ⊢
    replace hs1 : s.size ≤ 1 := Nat.le_of_eq hs1
    have l1 : (⟨#[72, 69, 68, 43]⟩ : ByteArray).size = 4 := rfl
    have l2 : (⟨#[43, 65, 66, 67, 68, 69, 70, 39, 69, 78, 68, 43, 50, 43]⟩ : ByteArray).size = 14 := rfl
    have l3 : (⟨#[39]⟩ : ByteArray).size = 1 := rfl
    have l4 : (⟨#[72, 69, 68, 43, 65, 43, 65, 66, 67, 68, 69]⟩ : ByteArray).size = 11 := rfl
    have l5 : (⟨#[39, 69, 78, 68, 43, 50, 43, 65, 39]⟩ : ByteArray).size = 9 := rfl
    have l6 : (⟨#[72, 69, 68, 43, 65, 43, 65, 66, 67, 68, 69, 70, 39, 65, 66]⟩ : ByteArray).size = 15 := rfl
    have l7 : (⟨#[43, 49, 39, 69, 78, 68, 43, 51, 43, 65, 39]⟩ : ByteArray).size = 11 := rfl
    have l8 : (⟨#[72, 69, 68, 43, 65, 43, 65, 66, 67, 68, 69, 70, 39, 69, 78, 68, 43, 50]⟩ : ByteArray).size = 18 := rfl
    have l9 : (⟨#[43, 65, 39]⟩ : ByteArray).size = 3 := rfl
    have l10 : (⟨#[72, 69, 68, 43, 65, 43, 65, 66, 67, 68, 69, 70, 39]⟩ : ByteArray).size = 13 := rfl
    have c1 : ((⟨#[72, 69, 68, 43]⟩ : ByteArray) ++ s).size ≤ 4 + 1 := app_le (by omega) hs1
    have c2 : ((⟨#[72, 69, 68, 43]⟩ : ByteArray) ++ s ++ ⟨#[43, 65, 66, 67, 68, 69, 70, 39, 69, 78, 68, 43, 50, 43]⟩).size ≤ 4 + 1 + 14 := app_le c1 (by omega)
    have c3 : ((⟨#[72, 69, 68, 43]⟩ : ByteArray) ++ s ++ ⟨#[43, 65, 66, 67, 68, 69, 70, 39, 69, 78, 68, 43, 50, 43]⟩ ++ s).size ≤ 4 + 1 + 14 + 1 := app_le c2 hs1
    have c4 : ((⟨#[72, 69, 68, 43, 65, 43, 65, 66, 67, 68, 69]⟩ : ByteArray) ++ s).size ≤ 11 + 1 := app_le (by omega) hs1
    have c5 : ((⟨#[72, 69, 68, 43, 65, 43, 65, 66, 67, 68, 69, 70, 39, 65, 66]⟩ : ByteArray) ++ s).size ≤ 15 + 1 := app_le (by omega) hs1
    have c6 : ((⟨#[72, 69, 68, 43, 65, 43, 65, 66, 67, 68, 69, 70, 39, 69, 78, 68, 43, 50]⟩ : ByteArray) ++ s).size ≤ 18 + 1 := app_le (by omega) hs1
    refine sat_ops (Tryz.ok ..) ?_
    repeat' ((conv => whnf); first | refine side2 ?_ | fail)
    (conv => whnf)
    intro g86 hg86
    repeat' ((conv => whnf); first | refine walk (Tryz.ok ..) ?_ | fail)
    refine sat_loop (Tryz.ok ..) (α := Nat) (fun k => ([(4, .yes, .v (.int .i64 b)), (5, .yes, .v (.string s)), (86, .yes, .s 86 g86 0 0 5 5), (87, .yes, .v (.int .i64 5)), (88, .yes, .v (.int .i64 k))], [(86, .blk g86 9 [SV.v (.string ((⟨#[72, 69, 68, 43]⟩ : ByteArray) ++ s ++ ⟨#[43, 65, 66, 67, 68, 69, 70, 39, 69, 78, 68, 43, 50, 43]⟩ ++ s ++ ⟨#[39]⟩)), .v (.string ((⟨#[72, 69, 68, 43, 65, 43, 65, 66, 67, 68, 69]⟩ : ByteArray) ++ s ++ ⟨#[39, 69, 78, 68, 43, 50, 43, 65, 39]⟩)), .v (.string ((⟨#[72, 69, 68, 43, 65, 43, 65, 66, 67, 68, 69, 70, 39, 65, 66]⟩ : ByteArray) ++ s ++ ⟨#[43, 49, 39, 69, 78, 68, 43, 51, 43, 65, 39]⟩)), .v (.string ((⟨#[72, 69, 68, 43, 65, 43, 65, 66, 67, 68, 69, 70, 39, 69, 78, 68, 43, 50]⟩ : ByteArray) ++ s ++ ⟨#[43, 65, 39]⟩)), .v (.string ((⟨#[72, 69, 68, 43, 65, 43, 65, 66, 67, 68, 69, 70, 39]⟩ : ByteArray) ++ s))])])) (fun k => k ≤ 5) (fun k => 5 - k) (fun _ => rfl) ?_ ?_
    · refine ⟨0, by omega, ?_, ?_, rfl⟩
      all_goals ((repeat' (first | exact trivial | exact rfl | refine And.intro ?_ ?_)) <;> (try (conv => whnf)) <;> (try simp only [SV.real, SV.r2, SV.r1]))
    rintro k hk
    by_cases hk1 : k < 5
    · obtain ⟨x, hx⟩ := five_get (a := (⟨#[72, 69, 68, 43]⟩ : ByteArray) ++ s ++ ⟨#[43, 65, 66, 67, 68, 69, 70, 39, 69, 78, 68, 43, 50, 43]⟩ ++ s ++ ⟨#[39]⟩) (b := (⟨#[72, 69, 68, 43, 65, 43, 65, 66, 67, 68, 69]⟩ : ByteArray) ++ s ++ ⟨#[39, 69, 78, 68, 43, 50, 43, 65, 39]⟩) (c := (⟨#[72, 69, 68, 43, 65, 43, 65, 66, 67, 68, 69, 70, 39, 65, 66]⟩ : ByteArray) ++ s ++ ⟨#[43, 49, 39, 69, 78, 68, 43, 51, 43, 65, 39]⟩) (d := (⟨#[72, 69, 68, 43, 65, 43, 65, 66, 67, 68, 69, 70, 39, 69, 78, 68, 43, 50]⟩ : ByteArray) ++ s ++ ⟨#[43, 65, 39]⟩) (e := (⟨#[72, 69, 68, 43, 65, 43, 65, 66, 67, 68, 69, 70, 39]⟩ : ByteArray) ++ s) hk1
      repeat' ((conv => whnf); first | refine walk (Tryz.ok ..) ?_ | (refine Cnd.mk (fun h => ?_) (fun h => ?_) <;> (first | exact cndT h (by (try dsimp only); omega) | exact cndF h (by (try dsimp only); omega) | (exfalso; simp at h; omega) | simp at h | skip)) | refine side2 ?_ | refine xi _ hx ?_ | fail)
      (conv => whnf)
      refine called_at (.v (.bool true)) rfl (fun w' hh => by exact readsM_any _ w' (hw.at_ rfl rfl hh)) ?_
      repeat' ((conv => whnf); first | refine walk (Tryz.ok ..) ?_ | (refine Cnd.mk (fun h => ?_) (fun h => ?_) <;> (first | exact cndT h (by (try dsimp only); omega) | exact cndF h (by (try dsimp only); omega) | (exfalso; simp at h; omega) | simp at h | skip)) | refine sideL2 ?_ | fail)
      refine ⟨k + 1, ⟨by omega, by omega⟩, ?_, ?_, rfl⟩
      all_goals ((repeat' (first | exact trivial | exact rfl | refine And.intro ?_ ?_)) <;> (try (conv => whnf)) <;> (try simp only [SV.real, SV.r2, SV.r1]))
    obtain rfl : k = 5 := by omega
    have l11 : (⟨#[65, 66, 67, 68, 69]⟩ : ByteArray).size = 5 := rfl
    have l12 : (⟨#[65]⟩ : ByteArray).size = 1 := rfl
    have l13 : (⟨#[65, 66]⟩ : ByteArray).size = 2 := rfl
    have d1 : ((⟨#[65, 66, 67, 68, 69]⟩ : ByteArray) ++ s).size ≤ 5 + 1 := app_le (by omega) hs1
    have d2 : ((⟨#[65]⟩ : ByteArray) ++ s).size ≤ 1 + 1 := app_le (by omega) hs1
    have d3 : ((⟨#[65, 66]⟩ : ByteArray) ++ s).size ≤ 2 + 1 := app_le (by omega) hs1
    repeat' ((conv => whnf); first | refine walk (Tryz.ok ..) ?_ | (refine Cnd.mk (fun h => ?_) (fun h => ?_) <;> (first | exact cndT h (by (try dsimp only); omega) | exact cndF h (by (try dsimp only); omega) | (exfalso; simp at h; omega) | simp at h | skip)) | refine side2 ?_ | fail)
    (conv => whnf)
    intro g99 hg99
    skip
    (conv => whnf)
    refine called_at (.v (.bool true)) rfl (fun w' hh => by exact writes_own [⟨((⟨#[65, 66, 67, 68, 69]⟩ : ByteArray) ++ s), ⟨#[65]⟩, []⟩] _ w' (hw.at_ rfl rfl hh) (blk_zT (MsgR NSA) hh 99 (g := g99) [⟨((⟨#[65, 66, 67, 68, 69]⟩ : ByteArray) ++ s), ⟨#[65]⟩, []⟩] [.string ((⟨#[65, 66, 67, 68, 69]⟩ : ByteArray) ++ s), .string ⟨#[65]⟩, .slice none 0 0] rfl rfl (by unfold maxLen; simp) rfl rfl (at_one (bare_msg _ _))) (ownB_one (by omega) (by decide))) ?_
    repeat' ((conv => whnf); first | refine side2 ?_ | (with_reducible refine Or.inr (Cnd.mk (fun _ => ?_) (fun h => absurd h (by simp)))) | fail)
    (conv => whnf)
    intro g106 hg106
    repeat' ((conv => whnf); first | (with_reducible refine Or.inr (Cnd.mk (fun _ => ?_) (fun h => absurd h (by simp)))) | fail)
    (conv => whnf)
    refine called_at (.v (.bool true)) rfl (fun w' hh => by exact writes_own [⟨⟨#[65, 66, 67, 68, 69, 70]⟩, ((⟨#[65]⟩ : ByteArray) ++ s), []⟩] _ w' (hw.at_ rfl rfl hh) (blk_zT (MsgR NSA) hh 106 (g := g106) [⟨⟨#[65, 66, 67, 68, 69, 70]⟩, ((⟨#[65]⟩ : ByteArray) ++ s), []⟩] [.string ⟨#[65, 66, 67, 68, 69, 70]⟩, .string ((⟨#[65]⟩ : ByteArray) ++ s), .slice none 0 0] rfl rfl (by unfold maxLen; simp) rfl rfl (at_one (bare_msg _ _))) (ownB_one (by decide) (by omega))) ?_
    repeat' ((conv => whnf); first | refine side2 ?_ | (with_reducible refine Or.inr (Cnd.mk (fun _ => ?_) (fun h => absurd h (by simp)))) | fail)
    (conv => whnf)
    intro g115 hg115
    repeat' ((conv => whnf); first | (with_reducible refine Or.inr (Cnd.mk (fun _ => ?_) (fun h => absurd h (by simp)))) | fail)
    (conv => whnf)
    intro g116 hg116
    repeat' ((conv => whnf); first | refine side2 ?_ | (with_reducible refine Or.inr (Cnd.mk (fun _ => ?_) (fun h => absurd h (by simp)))) | fail)
    (conv => whnf)
    intro g118 hg118
    repeat' ((conv => whnf); first | refine side2 ?_ | (with_reducible refine Or.inr (Cnd.mk (fun _ => ?_) (fun h => absurd h (by simp)))) | fail)
    (conv => whnf)
    intro g120 hg120
    repeat' ((conv => whnf); first | (with_reducible refine Or.inr (Cnd.mk (fun _ => ?_) (fun h => absurd h (by simp)))) | fail)
    (conv => whnf)
    refine called_at (.v (.bool true)) rfl (fun w' hh => by exact writes_own [⟨⟨#[65, 66, 67, 68, 69, 70]⟩, s, [((⟨#[65, 66]⟩ : ByteArray) ++ s, [[s]])]⟩] _ w' (hw.at_ rfl rfl hh) (blk_zT (MsgR NSA) hh 120 (g := g120) [⟨⟨#[65, 66, 67, 68, 69, 70]⟩, s, [((⟨#[65, 66]⟩ : ByteArray) ++ s, [[s]])]⟩] [.string ⟨#[65, 66, 67, 68, 69, 70]⟩, .string s, .slice (some ⟨g118, 0, none⟩) 1 1] rfl rfl (by unfold maxLen; simp) rfl rfl (at_one ⟨_, rfl, blk_zT (SegR NSA) hh 118 (g := g118) [((⟨#[65, 66]⟩ : ByteArray) ++ s, [[s]])] [.string ((⟨#[65, 66]⟩ : ByteArray) ++ s), .slice (some ⟨g116, 0, none⟩) 1 1] rfl rfl (by unfold maxLen; simp) rfl rfl (at_one ⟨_, rfl, ns_arg (blk_nest NE hh 116 (g := g116) [[s]] [.slice (some ⟨g115, 0, none⟩) 1 1] rfl rfl (by unfold maxLen; simp) rfl ⟨blk_nest Text hh 115 (g := g115) [s] [.string s] rfl rfl (by unfold maxLen; simp) rfl ⟨rfl, trivial⟩, trivial⟩)⟩)⟩)) (ownB_seg (by decide) (by omega) (by omega) (by simp) (fun e he => by rw [List.mem_singleton.1 he]; simp))) ?_
    repeat' ((conv => whnf); first | refine walk (Tryz.ok ..) ?_ | (refine Cnd.mk (fun h => ?_) (fun h => ?_) <;> (first | exact cndT h (by (try dsimp only); omega) | exact cndF h (by (try dsimp only); omega) | (exfalso; simp at h; omega) | simp at h | skip)) | refine side2 ?_ | refine sideL2 ?_ | fail)
    refine ⟨b + 1, ⟨by omega, by omega⟩, ?_, ?_, rfl⟩
    all_goals ((repeat' (first | exact trivial | exact rfl | refine And.intro ?_ ?_)) <;> (try (conv => whnf)) <;> (try simp only [SV.real, SV.r2, SV.r1]))
  have hb2 : b = 256 := by omega
  subst hb2
  repeat' ((conv => whnf); first | refine walk (Tryz.ok ..) ?_ | (refine Cnd.mk (fun h => ?_) (fun h => ?_) <;> (first | exact cndT h (by (try dsimp only); omega) | exact cndF h (by (try dsimp only); omega) | (exfalso; simp at h; omega) | simp at h | skip)) | fail)
  refine sat_loop (Tryz.ok ..) (α := Nat) (fun n => ([(8, .yes, .v (.int .i64 n))], [])) (fun n => n ≤ 729) (fun n => 729 - n) (fun _ => rfl) ?_ ?_
  · refine ⟨0, by omega, ?_, ?_, rfl⟩
    all_goals ((repeat' (first | exact trivial | exact rfl | refine And.intro ?_ ?_)) <;> (try (conv => whnf)) <;> (try simp only [SV.real, SV.r2, SV.r1]))
  rintro n hn
  by_cases hn1 : n < 729
  · repeat' ((conv => whnf); first | refine walk (Tryz.ok ..) ?_ | (refine Cnd.mk (fun h => ?_) (fun h => ?_) <;> (first | exact cndT h (by (try dsimp only); omega) | exact cndF h (by (try dsimp only); omega) | (exfalso; simp at h; omega) | simp at h | skip)) | fail)
    refine sat_fuse 77 [] rfl fun w0 hw0 => ?_
    refine sat_loop (Tryz.ok ..) (α := Nat × Nat × Option (Nat × Nat) × Nat × List Value × World × List Nat × Dat) (fun t => ([(8, .yes, .v (.int .i64 n)), (9, .yes, .o 92 t.2.2.1 t.1 t.2.2.2.1), (10, .yes, .v (.int .i64 t.1)), (11, .yes, .v (.int .i64 t.2.1))], [(92, .row t.2.2.1 22 1 t.1 t.2.2.2.1 t.2.2.2.2.1), (77, .own t.2.2.2.2.2.2.1 (Frz t.2.2.2.2.2.1 t.2.2.2.2.2.2.1))]))
      (fun t => (t.1 ≤ 3 ∧ t.2.1 ≤ 729) ∧ (t.2.2.2.2.1.length = t.1 ∧ t.2.2.2.2.2.2.2.length = t.1) ∧ Got NE t.2.2.2.2.2.1 t.2.2.2.2.2.2.1 t.2.2.2.2.1 t.2.2.2.2.2.2.2 ∧ ∀ e ∈ t.2.2.2.2.2.2.2, e.length ≤ 2) (fun t => 3 - t.1) (fun _ => rfl) ?_ ?_
    · refine ⟨(0, n, none, 0, [], w0, [], []), ⟨⟨by omega, by omega⟩, ⟨rfl, rfl⟩, Got.nil, fun e he => by cases he⟩, ?_, ?_, rfl⟩
      all_goals ((repeat' (first | exact trivial | exact rfl | refine And.intro ?_ ?_)) <;> (try (conv => whnf)) <;> (try simp only [SV.real, SV.r2, SV.r1]))
    rintro ⟨k, q, A, cap, xs, w1, gs, l⟩ ⟨⟨hk, hq⟩, ⟨hxl, hll⟩, hgot, hl2⟩
    dsimp only at hk hq hxl hll hgot hl2 ⊢
    by_cases hk1 : k < 3
    · repeat' ((conv => whnf); first | refine walk (Tryz.ok ..) ?_ | (refine Cnd.mk (fun h => ?_) (fun h => ?_) <;> (first | exact cndT h (by (try dsimp only); omega) | exact cndF h (by (try dsimp only); omega) | (exfalso; simp at h; omega) | simp at h | skip)) | fail)
      refine sat_loop (Tryz.ok ..) (α := Nat × Nat × Option (Nat × Nat) × Nat × Nat × List ByteArray) (fun u => ([(8, .yes, .v (.int .i64 n)), (9, .yes, .o 92 A k cap), (10, .yes, .v (.int .i64 k)), (11, .yes, .v (.int .i64 u.2.1)), (12, .yes, .o 91 u.2.2.1 u.2.2.2.2.1 u.2.2.2.1), (13, .yes, .v (.int .i64 u.1))], [(91, .row u.2.2.1 9 1 u.2.2.2.2.1 u.2.2.2.1 (u.2.2.2.2.2.map Value.string)), (92, .row A 22 1 k cap xs), (77, .own gs (Frz w1 gs))]))
        (fun u => (u.1 ≤ 2 ∧ u.2.1 ≤ 729) ∧ u.2.2.2.2.2.length = u.2.2.2.2.1 ∧ u.2.2.2.2.1 ≤ u.1) (fun u => 2 - u.1) (fun _ => rfl) ?_ ?_
      · refine ⟨(0, q, none, 0, 0, []), ⟨⟨by omega, hq⟩, rfl, by show 0 ≤ 0; omega⟩, ?_, ?_, rfl⟩
        all_goals ((repeat' (first | exact trivial | exact rfl | refine And.intro ?_ ?_)) <;> (try (conv => whnf)) <;> (try simp only [SV.real, SV.r2, SV.r1]))
      rintro ⟨j, q2, A2, cap2, m, e⟩ ⟨⟨hj, hq2⟩, hel, hmj⟩
      dsimp only at hj hq2 hel hmj ⊢
      by_cases hj1 : j < 2
      · by_cases hr : 0 < (q2 : Int) % 3
        · obtain ⟨x, hx, hxs⟩ := tags3_get (k := (q2 : Int) % 3) (by omega) (by omega)
          repeat' ((conv => whnf); first | refine walk (Tryz.ok ..) ?_ | (refine Cnd.mk (fun h => ?_) (fun h => ?_) <;> (first | exact cndT h (by (try dsimp only); omega) | exact cndF h (by (try dsimp only); omega) | (exfalso; simp at h; omega) | simp at h | skip)) | refine sideL2 ?_ | fail)
          (conv => whnf)
          intro g141 hg141
          repeat' ((conv => whnf); first | refine side2 ?_ | refine sideL2 ?_ | refine xi _ hx ?_ | fail)
          (conv => whnf)
          intro g146 hg146
          repeat' ((conv => whnf); first | refine side2 ?_ | refine Or.inr ?_ | fail)
          (conv => whnf)
          intro A147 c147
          repeat' ((conv => whnf); first | refine walk (Tryz.ok ..) ?_ | refine sideL2 ?_ | fail)
          refine ⟨(j + 1, q2 / 3, A147, c147, m + 1, e ++ [x]), ⟨⟨⟨by show j + 1 ≤ 2; omega, by show q2 / 3 ≤ 729; omega⟩, by rw [List.length_append, hel]; rfl, by show m + 1 ≤ j + 1; omega⟩, by show 2 - (j + 1) < 2 - j; omega⟩, ?_, ?_, rfl⟩
          all_goals ((repeat' (first | exact trivial | exact rfl | refine And.intro ?_ ?_)) <;> (try (conv => whnf)) <;> (try simp only [SV.real, SV.r2, SV.r1]))
          rw [List.map_append]
          congr 1
        · repeat' ((conv => whnf); first | refine walk (Tryz.ok ..) ?_ | (refine Cnd.mk (fun h => ?_) (fun h => ?_) <;> (first | exact cndT h (by (try dsimp only); omega) | exact cndF h (by (try dsimp only); omega) | (exfalso; simp at h; omega) | simp at h | skip)) | refine sideL2 ?_ | fail)
          refine ⟨(j + 1, q2 / 3, A2, cap2, m, e), ⟨⟨⟨by show j + 1 ≤ 2; omega, by show q2 / 3 ≤ 729; omega⟩, hel, by show m ≤ j + 1; omega⟩, by show 2 - (j + 1) < 2 - j; omega⟩, ?_, ?_, rfl⟩
          all_goals ((repeat' (first | exact trivial | exact rfl | refine And.intro ?_ ?_)) <;> (try (conv => whnf)) <;> (try simp only [SV.real, SV.r2, SV.r1]))
      obtain rfl : j = 2 := by omega
      repeat' ((conv => whnf); first | refine walk (Tryz.ok ..) ?_ | (refine Cnd.mk (fun h => ?_) (fun h => ?_) <;> (first | exact cndT h (by (try dsimp only); omega) | exact cndF h (by (try dsimp only); omega) | (exfalso; simp at h; omega) | simp at h | skip)) | fail)
      (conv => whnf)
      intro g152 hg152
      repeat' ((conv => whnf); first | refine side2 ?_ | refine Or.inr ?_ | fail)
      (conv => whnf)
      intro A153 c153
      repeat' ((conv => whnf); first | refine walk (Tryz.ok ..) ?_ | fail)
      refine sat_fuse 77 [77, 91] rfl fun w4 hw4 => ?_
      have hgot' := (hgot.fuse ne_stays [77, 91] 77 hw4 rfl rfl).ext (by rw [hxl, hll]) (nest_fuseN (l := e) [77, 91] 91 hel.symm hw4 rfl rfl (got_strs e))
      refine sat_ops (Tryz.ok ..) ?_
      repeat' ((conv => whnf); first | refine sideL2 ?_ | fail)
      refine ⟨(k + 1, q2, A153, c153, _, w4, _, l ++ [e]), ⟨⟨⟨by show k + 1 ≤ 3; omega, hq2⟩, ⟨by rw [List.length_append, hxl]; rfl, by rw [List.length_append, hll]; rfl⟩, hgot', fun x hx => by
        rcases List.mem_append.1 hx with hx | hx
        · exact hl2 x hx
        · rw [List.mem_singleton.1 hx]; omega⟩, by show 3 - (k + 1) < 3 - k; omega⟩, ?_, ?_, rfl⟩
      all_goals ((repeat' (first | exact trivial | exact rfl | refine And.intro ?_ ?_)) <;> (try (conv => whnf)) <;> (try simp only [SV.real, SV.r2, SV.r1]))
    obtain rfl : k = 3 := by omega
    have hfs : FewS l := ⟨by omega, fun e he => by have := hl2 e he; omega⟩
    repeat' ((conv => whnf); first | refine walk (Tryz.ok ..) ?_ | (refine Cnd.mk (fun h => ?_) (fun h => ?_) <;> (first | exact cndT h (by (try dsimp only); omega) | exact cndF h (by (try dsimp only); omega) | (exfalso; simp at h; omega) | simp at h | skip)) | refine sideL2 ?_ | fail)
    skip
    (conv => whnf)
    refine called_fact 92 rfl fun hcap _ => ?_
    refine called_at (.v (.bool true)) rfl (fun w' hh => by exact trims_any l (.slice (adr A) 3 cap) _ _ w' (ns_arg (nest_top ne_stays hh 92 77 (A := A) rfl rfl hgot hll.symm)) hfs) ?_
    repeat' ((conv => whnf); first | refine side2 ?_ | (with_reducible refine Or.inr (Cnd.mk (fun _ => ?_) (fun h => absurd h (by simp)))) | refine sideL2 ?_ | fail)
    (conv => whnf)
    refine called_at (.v (.bool true)) rfl (fun w' hh => by exact trims_any (l.take ((n : Int) % 3).toNat) (.slice (adr A) ((n : Int) % 3).toNat cap) _ _ w' (ns_cut (n := 3) (ns_arg (nest_top ne_stays hh 92 77 (A := A) rfl rfl hgot hll.symm)) (by omega)) ⟨by rw [List.length_take]; omega, fun e he => by have := hl2 e (List.mem_of_mem_take he); omega⟩) ?_
    repeat' ((conv => whnf); first | refine side2 ?_ | (with_reducible refine Or.inr (Cnd.mk (fun _ => ?_) (fun h => absurd h (by simp)))) | fail)
    (conv => whnf)
    intro g176 hg176
    repeat' ((conv => whnf); first | refine side2 ?_ | (with_reducible refine Or.inr (Cnd.mk (fun _ => ?_) (fun h => absurd h (by simp)))) | fail)
    (conv => whnf)
    intro g178 hg178
    repeat' ((conv => whnf); first | (with_reducible refine Or.inr (Cnd.mk (fun _ => ?_) (fun h => absurd h (by simp)))) | fail)
    (conv => whnf)
    refine called_at (.v (.bool true)) rfl (fun w' hh => by exact writes_own [⟨⟨#[65, 66, 67, 68, 69, 70]⟩, ⟨#[65]⟩, [(⟨#[65, 66, 67]⟩, l)]⟩] _ w' (hw.at_ rfl rfl hh) (blk_zT (MsgR NSA) hh 178 (g := g178) [⟨⟨#[65, 66, 67, 68, 69, 70]⟩, ⟨#[65]⟩, [(⟨#[65, 66, 67]⟩, l)]⟩] [.string ⟨#[65, 66, 67, 68, 69, 70]⟩, .string ⟨#[65]⟩, .slice (some ⟨g176, 0, none⟩) 1 1] rfl rfl (by unfold maxLen; simp) rfl rfl (at_one ⟨_, rfl, blk_zT (SegR NSA) hh 176 (g := g176) [(⟨#[65, 66, 67]⟩, l)] [.string ⟨#[65, 66, 67]⟩, .slice (adr A) 3 cap] rfl rfl (by unfold maxLen; simp) rfl rfl (at_one ⟨_, rfl, ns_arg (nest_top ne_stays hh 92 77 (A := A) rfl rfl hgot hll.symm)⟩)⟩)) (ownB_seg (by decide) (by decide) (by decide) (by omega) (fun e he => by have := hl2 e he; omega))) ?_
    repeat' ((conv => whnf); first | refine walk (Tryz.ok ..) ?_ | (refine Cnd.mk (fun h => ?_) (fun h => ?_) <;> (first | exact cndT h (by (try dsimp only); omega) | exact cndF h (by (try dsimp only); omega) | (exfalso; simp at h; omega) | simp at h | skip)) | refine side2 ?_ | refine sideL2 ?_ | fail)
    refine ⟨n + 1, ⟨by omega, by omega⟩, ?_, ?_, rfl⟩
    all_goals ((repeat' (first | exact trivial | exact rfl | refine And.intro ?_ ?_)) <;> (try (conv => whnf)) <;> (try simp only [SV.real, SV.r2, SV.r1]))
  have hn2 : n = 729 := by omega
  subst hn2
  repeat' ((conv => whnf); first | refine walk (Tryz.ok ..) ?_ | (refine Cnd.mk (fun h => ?_) (fun h => ?_) <;> (first | exact cndT h (by (try dsimp only); omega) | exact cndF h (by (try dsimp only); omega) | (exfalso; simp at h; omega) | simp at h | skip)) | fail)
  (conv => whnf)
  refine called_at (.v (.bool true)) rfl (fun w' hh => by exact limits_any w' (hw.at_ rfl rfl hh)) ?_
  repeat' ((conv => whnf); first | (with_reducible refine Or.inr (Cnd.mk (fun _ => ?_) (fun h => absurd h (by simp)))) | fail)
  (conv => whnf)
  refine called_at (.v (.bool true)) rfl (fun w' hh => by exact awakeG_any w' (hw.at_ rfl rfl hh)) ?_
  repeat' ((conv => whnf); first | refine walk (Tryz.ok ..) ?_ | fail)
  exact done_pure rfl rfl rfl
end
end Go.Proofs.YtdohcglpcgahaaaGreatDoor
