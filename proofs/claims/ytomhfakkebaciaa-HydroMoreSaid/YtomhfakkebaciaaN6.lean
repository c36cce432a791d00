/-
  The walks of the frac package: a multiple is taken away in place, a number is added in place.
-/
import Derived.Test.YtomhfakkebaciaaN5
namespace Go.Proofs.Ytomhfakkebaciaa
open Go Sat Go.RowKit Go.PlainAid
set_option linter.unusedSimpArgs false
set_option linter.unusedVariables false
def Cz (vl i c : Nat) : Prop := vl < i → c = 0
set_option maxRecDepth 100000 in
set_option maxHeartbeats 8000000 in
theorem take_any (l : List Nat) (pre post : List Value) (g ty cap V m : Nat) (A : Option (Nat × Nat)) (capA : Nat) (w : World) (hg : w.heap[g]? = some (.cells (pre ++ us l ++ post).toArray ty (0, 0))) (hA : Ro w A (dg bb V).length 1 (us (dg bb V))) (hne : ∀ p, A = some p → p.1 ≠ g)
    (hl : l.length ≤ 1000000) (hb : ∀ x ∈ l, x < bb) (hm : m < bb) (hV : (dg bb V).length < l.length) :
    Calls Try.prog 75 #[.slice (some ⟨g, pre.length, none⟩) l.length cap, .slice (adr A) (dg bb V).length capA, .int .u64 m] w fun e w' => e = .returned (.bool (decide (nv bb l < m * V))) ∧ w'.heap[g]? = some (.cells (pre ++ us (dgs l.length (nv bb l + bb ^ l.length - m * V)) ++ post).toArray ty (0, 0)) ∧ Mod g w w' := by
  have hbb : bb = 4294967296 := rfl
  obtain ⟨n, hn⟩ : ∃ n, n = l.length := ⟨_, rfl⟩
  obtain ⟨off, ho⟩ : ∃ n, n = pre.length := ⟨_, rfl⟩
  obtain ⟨vl, hvl⟩ : ∃ n, n = (dg bb V).length := ⟨_, rfl⟩
  rw [← hvl] at hA hV
  rw [← ho, ← hn, ← hvl]
  refine calls_sat (cx := Try.cxg 52 [] [] [] w.heap.size [g] w) (Try.ok ..) Try.func75 rfl [.s 100 g 0 off n cap, .o 101 A vl capA, .v (.int .u64 m)] rfl (by show 3 ≤ 52; omega) [(100, .blk g ty (bl pre l post)), (101, .ro A vl 1 (us (dg bb V)))] (holds_set2 rfl rfl (by rw [bl_r1]; exact hg) hA hne) ?_
  repeat' ((conv => whnf); first | refine walk (Try.ok ..) ?_ | fail)
  refine sat_loop (Try.ok ..) (α := Nat × List Nat × Nat × Nat) (fun s => ([(0, .yes, .s 100 g 0 off n cap), (1, .yes, .o 101 A vl capA), (2, .yes, .v (.int .u64 m)), (7, .yes, .v (.int .u64 s.2.2.1)), (8, .yes, .v (.int .u64 s.2.2.2)), (11, .yes, .s 100 g 0 off n cap), (12, .yes, .v (.int .i64 n)), (13, .yes, .v (.int .i64 s.1))], [(100, .blk g ty (bl pre s.2.1 post)), (101, .ro A vl 1 (us (dg bb V)))]))
    (fun s => s.1 ≤ n ∧ s.2.1.length = n ∧ (∀ z ∈ s.2.1, z < bb) ∧ (∀ q, s.1 ≤ q → q < n → s.2.1[q]? = l[q]?) ∧ s.2.2.1 < bb ∧ s.2.2.2 ≤ 1 ∧ Cz vl s.1 s.2.2.1 ∧ nv bb s.2.1 + m * (V % bb ^ s.1) = nv bb l + bb ^ s.1 * (s.2.2.1 + s.2.2.2)) (fun s => n - s.1) (fun _ => rfl) ?_ ?_
  · refine ⟨(0, l, 0, 0), ⟨Nat.zero_le _, hn.symm, hb, fun _ _ _ => rfl, (show 0 < bb by decide), Nat.zero_le _, fun _ => rfl, ?_⟩, ?_, ?_, rfl⟩
    · simp [Nat.mod_one]
    · ((repeat' (first | exact trivial | exact rfl | refine And.intro ?_ ?_)) <;> (try (conv => whnf)) <;> (try simp only [SV.real, SV.r2, SV.r1]))
    · ((repeat' (first | exact trivial | exact rfl | refine And.intro ?_ ?_)) <;> (try (conv => whnf)) <;> (try simp only [SV.real, SV.r2, SV.r1]))
  rintro ⟨i, o, c, w0⟩ ⟨hi, hol, hob, hoz, hc, hw0, hcz, hinv⟩
  dsimp only at hi hol hob hoz hc hw0 hcz hinv
  by_cases hin : i < n
  · obtain ⟨xa, hxl⟩ := us_at (l := l) (k := i) (by omega)
    have hxb := hb xa (List.mem_of_getElem? hxl)
    have hxo := hoz i (Nat.le_refl _) hin
    rw [hxl] at hxo
    have hyb : V / bb ^ i % bb < bb := Nat.mod_lt _ (by decide)
    by_cases hiv : i < vl
    · have hya := dg_get (B := bb) (by decide) i V (by omega)
      obtain ⟨ya, eya⟩ : ∃ v, v = V / bb ^ i % bb := ⟨_, rfl⟩
      rw [← eya] at hya hyb
      have hml := mul_lim hm hyb
      obtain ⟨q, hq⟩ : ∃ q, q = m * ya := ⟨_, rfl⟩
      have hqi : (m : Int) * (ya : Int) = (q : Int) := by rw [hq]; exact (Int.natCast_mul ..).symm
      rw [← hq] at hml
      obtain ⟨c2, ec2⟩ : ∃ c2, c2 = c + q := ⟨_, rfl⟩
      have hc2b : c2 ≤ 18446744069414584320 := by rw [hbb] at hc; omega
      obtain ⟨d, w2, hd1, hd2, hd⟩ := sub_ex (b := c2 % bb) hxb (Nat.mod_lt _ (by decide)) hw0
      have hceq : c + m * ya = c2 := by rw [ec2, hq]
      have hcei : (c : Int) + (m : Int) * (ya : Int) = (c2 : Int) := by rw [hqi, ec2]; omega
      rw [hbb] at hc hm
      have hs2 := nv_set (B := bb) (x := d) hxo
      have hst := take_step (B := bb) hinv hs2 (by rw [← eya, hceq]; exact hd)
      rw [← eya, hceq] at hst
      have hlo : off + mulS ((i : Int)).toNat 1 < (bl pre o post).length := b_lt (k := i) (by omega) ho rfl
      rw [hbb] at hd hd1 hxb hyb
      have hc2 : c2 / bb < bb := by rw [hbb]; omega
      have hc3 : c2 / bb = c2 / 4294967296 := rfl
      have hw32 : IntKind.u32.wrap ((c : Int) + (m : Int) * (ya : Int)) = ((c2 % 4294967296 : Nat) : Int) := by rw [wrap_u32, hcei]; omega
      have hset : (bl pre o post).set (off + mulS ((i : Int)).toNat 1) (.v (.int .u32 (IntKind.u32.wrap (IntKind.u64.wrap (IntKind.u64.wrap ((xa : Int) - IntKind.u32.wrap ((c : Int) + (m : Int) * (ya : Int))) - w0))))) = bl pre (o.set i d) post := b_set (by omega) ho rfl (by rw [wrap_u32, hw32]; simp only [IntKind.wrap_u64]; omega)
      repeat' ((conv => whnf); first | refine walk (Try.ok ..) ?_ | (refine Cnd.mk (fun h => ?_) (fun h => ?_) <;> (first | exact cndT h (by (try dsimp only); omega) | exact cndF h (by (try dsimp only); omega) | (exfalso; simp at h; omega) | simp at h | skip)) | refine side2 ?_ | refine sideL2 ?_ | refine Or.inr ?_ | refine xi _ (u_at hya rfl) ?_ | refine xi _ (b_at hxo ho rfl) ?_ | fail)
      refine ⟨(i + 1, o.set i d, c2 / bb, w2), ⟨⟨by omega, by rw [List.length_set]; exact hol, all_set hob hd1, fun q h1 h2 => ?_, hc2, hd2, (fun h => absurd h (by omega)), hst⟩, by dsimp only; omega⟩, ?_, ?_, rfl⟩
      · rw [List.getElem?_set_ne (by omega)]
        exact hoz q (by omega) h2
      · dsimp only
        rw [show ((c2 / bb : Nat) : Int) = ((c : Int) + (m : Int) * (ya : Int)) / 2 ^ Int.toNat 32 by rw [hcei, pow32, hc3]; omega, show (w2 : Int) = IntKind.u64.wrap (IntKind.u64.wrap ((xa : Int) - IntKind.u32.wrap ((c : Int) + (m : Int) * (ya : Int))) - w0) / 2 ^ Int.toNat 63 by rw [pow63, hw32]; simp only [IntKind.wrap_u64]; omega]
        ((repeat' (first | exact trivial | exact rfl | refine And.intro ?_ ?_)) <;> (try (conv => whnf)) <;> (try simp only [SV.real, SV.r2, SV.r1]))
      · dsimp only
        rw [← hset]
        ((repeat' (first | exact trivial | exact rfl | refine And.intro ?_ ?_)) <;> (try (conv => whnf)) <;> (try simp only [SV.real, SV.r2, SV.r1]))
    · have hya := dg_past (B := bb) (by decide) (k := i) (n := V) (by omega)
      obtain ⟨ya, eya⟩ : ∃ v, v = V / bb ^ i % bb := ⟨_, rfl⟩
      rw [← eya] at hya hyb
      obtain ⟨c2, ec2⟩ : ∃ c2, c2 = c := ⟨_, rfl⟩
      have hc2b : c2 ≤ 18446744069414584320 := by rw [hbb] at hc; omega
      obtain ⟨d, w2, hd1, hd2, hd⟩ := sub_ex (b := c2 % bb) hxb (Nat.mod_lt _ (by decide)) hw0
      have hceq : c + m * ya = c2 := by rw [ec2, hya, Nat.mul_zero, Nat.add_zero]
      have hcei : (c : Int) = (c2 : Int) := by rw [ec2]
      rw [hbb] at hc hm
      have hs2 := nv_set (B := bb) (x := d) hxo
      have hst := take_step (B := bb) hinv hs2 (by rw [← eya, hceq]; exact hd)
      rw [← eya, hceq] at hst
      have hlo : off + mulS ((i : Int)).toNat 1 < (bl pre o post).length := b_lt (k := i) (by omega) ho rfl
      rw [hbb] at hd hd1 hxb hyb
      have hc2 : c2 / bb < bb := by rw [hbb]; omega
      have hc3 : c2 / bb = c2 / 4294967296 := rfl
      have hw32 : (c : Int) = ((c2 % 4294967296 : Nat) : Int) := by omega
      have hset : (bl pre o post).set (off + mulS ((i : Int)).toNat 1) (.v (.int .u32 (IntKind.u32.wrap (IntKind.u64.wrap (IntKind.u64.wrap ((xa : Int) - (c : Int)) - w0))))) = bl pre (o.set i d) post := b_set (by omega) ho rfl (by rw [wrap_u32, hw32]; simp only [IntKind.wrap_u64]; omega)
      repeat' ((conv => whnf); first | refine walk (Try.ok ..) ?_ | (refine Cnd.mk (fun h => ?_) (fun h => ?_) <;> (first | exact cndT h (by (try dsimp only); omega) | exact cndF h (by (try dsimp only); omega) | (exfalso; simp at h; omega) | simp at h | skip)) | refine side2 ?_ | refine sideL2 ?_ | refine Or.inr ?_ | refine xi _ (b_at hxo ho rfl) ?_ | fail)
      refine ⟨(i + 1, o.set i d, c2 / bb, w2), ⟨⟨by omega, by rw [List.length_set]; exact hol, all_set hob hd1, fun q h1 h2 => ?_, hc2, hd2, (fun _ => by dsimp only; rw [hbb]; omega), hst⟩, by dsimp only; omega⟩, ?_, ?_, rfl⟩
      · rw [List.getElem?_set_ne (by omega)]
        exact hoz q (by omega) h2
      · dsimp only
        rw [show ((c2 / bb : Nat) : Int) = ((c : Int)) / 2 ^ Int.toNat 32 by rw [hcei, pow32, hc3]; omega, show (w2 : Int) = IntKind.u64.wrap (IntKind.u64.wrap ((xa : Int) - (c : Int)) - w0) / 2 ^ Int.toNat 63 by rw [pow63, hw32]; simp only [IntKind.wrap_u64]; omega]
        ((repeat' (first | exact trivial | exact rfl | refine And.intro ?_ ?_)) <;> (try (conv => whnf)) <;> (try simp only [SV.real, SV.r2, SV.r1]))
      · dsimp only
        rw [← hset]
        ((repeat' (first | exact trivial | exact rfl | refine And.intro ?_ ?_)) <;> (try (conv => whnf)) <;> (try simp only [SV.real, SV.r2, SV.r1]))
  · obtain rfl : i = n := by omega
    have hc0 := hcz (by omega)
    subst hc0
    have hV1 : V % bb ^ i = V := Nat.mod_eq_of_lt ((dg_len (by decide) i V).1 (by omega))
    rw [hV1, Nat.zero_add] at hinv
    have hlt := nv_lt hob
    rw [hol] at hlt
    have hl2 := nv_lt hb
    rw [← hn] at hl2
    have hw : decide ((0 : Int) < (w0 : Int)) = decide (nv bb l < m * V) := by
      rcases Nat.lt_or_ge w0 1 with h | h
      · obtain rfl : w0 = 0 := by omega
        rw [decide_eq_false (by omega), decide_eq_false (by omega)]
      · obtain rfl : w0 = 1 := by omega
        rw [decide_eq_true (by omega), decide_eq_true (by omega)]
    have hval : (nv bb l + bb ^ i - m * V) % bb ^ i = nv bb o := by
      rcases Nat.lt_or_ge w0 1 with h | h
      · obtain rfl : w0 = 0 := by omega
        rw [show nv bb l + bb ^ i - m * V = nv bb o + bb ^ i by omega, Nat.add_mod_right, Nat.mod_eq_of_lt hlt]
      · obtain rfl : w0 = 1 := by omega
        rw [show nv bb l + bb ^ i - m * V = nv bb o by omega, Nat.mod_eq_of_lt hlt]
    have ho2 : o = dgs i (nv bb l + bb ^ i - m * V) := nv_inj (B := bb) (by rw [dgs_len, hol]) hob (dgs_lt _ _) (by rw [nv_dgs, hval])
    repeat' ((conv => whnf); first | refine walk (Try.ok ..) ?_ | (refine Cnd.mk (fun h => ?_) (fun h => ?_) <;> (first | exact cndT h (by (try dsimp only); omega) | exact cndF h (by (try dsimp only); omega) | (exfalso; simp at h; omega) | simp at h | skip)) | fail)
    rw [← ho2, ← hw, ← bl_r1]
    exact done_set (g := g) (ty := ty) (cs := bl pre o post) (cs' := bl pre o post) rfl rfl 100 rfl rfl rfl
set_option maxRecDepth 100000 in
set_option maxHeartbeats 8000000 in
theorem give_any (l : List Nat) (pre post : List Value) (g ty cap V : Nat) (A : Option (Nat × Nat)) (capA : Nat) (w : World) (hg : w.heap[g]? = some (.cells (pre ++ us l ++ post).toArray ty (0, 0))) (hA : Ro w A (dg bb V).length 1 (us (dg bb V))) (hne : ∀ p, A = some p → p.1 ≠ g)
    (hl : l.length ≤ 1000000) (hb : ∀ x ∈ l, x < bb) (hV : (dg bb V).length < l.length) :
    Calls Try.prog 76 #[.slice (some ⟨g, pre.length, none⟩) l.length cap, .slice (adr A) (dg bb V).length capA] w fun e w' => e = .returned (.bool (decide (bb ^ l.length ≤ nv bb l + V))) ∧ w'.heap[g]? = some (.cells (pre ++ us (dgs l.length (nv bb l + V)) ++ post).toArray ty (0, 0)) ∧ Mod g w w' := by
  have hbb : bb = 4294967296 := rfl
  obtain ⟨n, hn⟩ : ∃ n, n = l.length := ⟨_, rfl⟩
  obtain ⟨off, ho⟩ : ∃ n, n = pre.length := ⟨_, rfl⟩
  obtain ⟨vl, hvl⟩ : ∃ n, n = (dg bb V).length := ⟨_, rfl⟩
  rw [← hvl] at hA hV
  rw [← ho, ← hn, ← hvl]
  refine calls_sat (cx := Try.cxg 40 [] [] [] w.heap.size [g] w) (Try.ok ..) Try.func76 rfl [.s 100 g 0 off n cap, .o 101 A vl capA] rfl (by show 2 ≤ 40; omega) [(100, .blk g ty (bl pre l post)), (101, .ro A vl 1 (us (dg bb V)))] (holds_set2 rfl rfl (by rw [bl_r1]; exact hg) hA hne) ?_
  repeat' ((conv => whnf); first | refine walk (Try.ok ..) ?_ | fail)
  refine sat_loop (Try.ok ..) (α := Nat × List Nat × Nat) (fun s => ([(0, .yes, .s 100 g 0 off n cap), (1, .yes, .o 101 A vl capA), (5, .yes, .v (.int .u64 s.2.2)), (7, .yes, .s 100 g 0 off n cap), (8, .yes, .v (.int .i64 n)), (9, .yes, .v (.int .i64 s.1))], [(100, .blk g ty (bl pre s.2.1 post)), (101, .ro A vl 1 (us (dg bb V)))]))
    (fun s => s.1 ≤ n ∧ s.2.1.length = n ∧ (∀ z ∈ s.2.1, z < bb) ∧ (∀ q, s.1 ≤ q → q < n → s.2.1[q]? = l[q]?) ∧ s.2.2 ≤ 1 ∧ nv bb s.2.1 + bb ^ s.1 * s.2.2 = nv bb l + V % bb ^ s.1) (fun s => n - s.1) (fun _ => rfl) ?_ ?_
  · refine ⟨(0, l, 0), ⟨Nat.zero_le _, hn.symm, hb, fun _ _ _ => rfl, Nat.zero_le _, ?_⟩, ?_, ?_, rfl⟩
    · simp [Nat.mod_one]
    · ((repeat' (first | exact trivial | exact rfl | refine And.intro ?_ ?_)) <;> (try (conv => whnf)) <;> (try simp only [SV.real, SV.r2, SV.r1]))
    · ((repeat' (first | exact trivial | exact rfl | refine And.intro ?_ ?_)) <;> (try (conv => whnf)) <;> (try simp only [SV.real, SV.r2, SV.r1]))
  rintro ⟨i, o, c⟩ ⟨hi, hol, hob, hoz, hc, hinv⟩
  dsimp only at hi hol hob hoz hc hinv
  by_cases hin : i < n
  · obtain ⟨xa, hxl⟩ := us_at (l := l) (k := i) (by omega)
    have hxb := hb xa (List.mem_of_getElem? hxl)
    have hxo := hoz i (Nat.le_refl _) hin
    rw [hxl] at hxo
    have hyb : V / bb ^ i % bb < bb := Nat.mod_lt _ (by decide)
    by_cases hiv : i < vl
    · have hya := dg_get (B := bb) (by decide) i V (by omega)
      obtain ⟨ya, eya⟩ : ∃ v, v = V / bb ^ i % bb := ⟨_, rfl⟩
      rw [← eya] at hya hyb
      obtain ⟨s, es⟩ : ∃ s, s = c + xa + ya := ⟨_, rfl⟩
      have hs2 := nv_set (B := bb) (x := s % bb) hxo
      have hst := give_step (B := bb) (x := xa) (v' := nv bb (o.set i (s % bb))) hinv (by rw [← eya, ← es]; exact hs2)
      rw [← eya, ← es] at hst
      have hlo : off + mulS ((i : Int)).toNat 1 < (bl pre o post).length := b_lt (k := i) (by omega) ho rfl
      rw [hbb] at hxb hyb
      have hc2 : s / bb ≤ 1 := by rw [hbb]; omega
      have hset : (bl pre o post).set (off + mulS ((i : Int)).toNat 1) (.v (.int .u32 (IntKind.u32.wrap ((c : Int) + (xa : Int) + (ya : Int))))) = bl pre (o.set i (s % bb)) post := b_set (by omega) ho rfl (by rw [wrap_u32, hbb]; omega)
      repeat' ((conv => whnf); first | refine walk (Try.ok ..) ?_ | (refine Cnd.mk (fun h => ?_) (fun h => ?_) <;> (first | exact cndT h (by (try dsimp only); omega) | exact cndF h (by (try dsimp only); omega) | (exfalso; simp at h; omega) | simp at h | skip)) | refine side2 ?_ | refine sideL2 ?_ | refine Or.inr ?_ | refine xi _ (b_at hxo ho rfl) ?_ | refine xi _ (u_at hya rfl) ?_ | fail)
      refine ⟨(i + 1, o.set i (s % bb), s / bb), ⟨⟨by omega, by rw [List.length_set]; exact hol, all_set hob (Nat.mod_lt _ (by decide)), fun q h1 h2 => ?_, hc2, hst⟩, by dsimp only; omega⟩, ?_, ?_, rfl⟩
      · rw [List.getElem?_set_ne (by omega)]
        exact hoz q (by omega) h2
      · dsimp only
        rw [show ((s / bb : Nat) : Int) = ((c : Int) + (xa : Int) + (ya : Int)) / 2 ^ Int.toNat 32 by rw [pow32, hbb]; omega]
        ((repeat' (first | exact trivial | exact rfl | refine And.intro ?_ ?_)) <;> (try (conv => whnf)) <;> (try simp only [SV.real, SV.r2, SV.r1]))
      · dsimp only
        rw [← hset]
        ((repeat' (first | exact trivial | exact rfl | refine And.intro ?_ ?_)) <;> (try (conv => whnf)) <;> (try simp only [SV.real, SV.r2, SV.r1]))
    · have hya := dg_past (B := bb) (by decide) (k := i) (n := V) (by omega)
      obtain ⟨ya, eya⟩ : ∃ v, v = V / bb ^ i % bb := ⟨_, rfl⟩
      rw [← eya] at hya hyb
      obtain ⟨s, es⟩ : ∃ s, s = c + xa := ⟨_, rfl⟩
      have es2 : c + xa + ya = s := by omega
      have hs2 := nv_set (B := bb) (x := s % bb) hxo
      have hst := give_step (B := bb) (x := xa) (v' := nv bb (o.set i (s % bb))) hinv (by rw [← eya, es2]; exact hs2)
      rw [← eya, es2] at hst
      have hlo : off + mulS ((i : Int)).toNat 1 < (bl pre o post).length := b_lt (k := i) (by omega) ho rfl
      rw [hbb] at hxb hyb
      have hc2 : s / bb ≤ 1 := by rw [hbb]; omega
      have hset : (bl pre o post).set (off + mulS ((i : Int)).toNat 1) (.v (.int .u32 (IntKind.u32.wrap ((c : Int) + (xa : Int))))) = bl pre (o.set i (s % bb)) post := b_set (by omega) ho rfl (by rw [wrap_u32, hbb]; omega)
      repeat' ((conv => whnf); first | refine walk (Try.ok ..) ?_ | (refine Cnd.mk (fun h => ?_) (fun h => ?_) <;> (first | exact cndT h (by (try dsimp only); omega) | exact cndF h (by (try dsimp only); omega) | (exfalso; simp at h; omega) | simp at h | skip)) | refine side2 ?_ | refine sideL2 ?_ | refine Or.inr ?_ | refine xi _ (b_at hxo ho rfl) ?_ | fail)
      refine ⟨(i + 1, o.set i (s % bb), s / bb), ⟨⟨by omega, by rw [List.length_set]; exact hol, all_set hob (Nat.mod_lt _ (by decide)), fun q h1 h2 => ?_, hc2, hst⟩, by dsimp only; omega⟩, ?_, ?_, rfl⟩
      · rw [List.getElem?_set_ne (by omega)]
        exact hoz q (by omega) h2
      · dsimp only
        rw [show ((s / bb : Nat) : Int) = ((c : Int) + (xa : Int)) / 2 ^ Int.toNat 32 by rw [pow32, hbb]; omega]
        ((repeat' (first | exact trivial | exact rfl | refine And.intro ?_ ?_)) <;> (try (conv => whnf)) <;> (try simp only [SV.real, SV.r2, SV.r1]))
      · dsimp only
        rw [← hset]
        ((repeat' (first | exact trivial | exact rfl | refine And.intro ?_ ?_)) <;> (try (conv => whnf)) <;> (try simp only [SV.real, SV.r2, SV.r1]))
  · obtain rfl : i = n := by omega
    have hV1 : V % bb ^ i = V := Nat.mod_eq_of_lt ((dg_len (by decide) i V).1 (by omega))
    rw [hV1] at hinv
    have hlt := nv_lt hob
    rw [hol] at hlt
    have hw : decide ((0 : Int) < (c : Int)) = decide (bb ^ i ≤ nv bb l + V) := by
      rcases Nat.lt_or_ge c 1 with h | h
      · obtain rfl : c = 0 := by omega
        rw [decide_eq_false (by omega), decide_eq_false (by omega)]
      · obtain rfl : c = 1 := by omega
        rw [decide_eq_true (by omega), decide_eq_true (by omega)]
    have ho2 : o = dgs i (nv bb l + V) := nv_inj (B := bb) (by rw [dgs_len, hol]) hob (dgs_lt _ _) (by rw [nv_dgs, ← hinv, Nat.add_mul_mod_self_left, Nat.mod_eq_of_lt hlt])
    repeat' ((conv => whnf); first | refine walk (Try.ok ..) ?_ | (refine Cnd.mk (fun h => ?_) (fun h => ?_) <;> (first | exact cndT h (by (try dsimp only); omega) | exact cndF h (by (try dsimp only); omega) | (exfalso; simp at h; omega) | simp at h | skip)) | fail)
    rw [← ho2, ← hw, ← bl_r1]
    exact done_set (g := g) (ty := ty) (cs := bl pre o post) (cs' := bl pre o post) rfl rfl 100 rfl rfl rfl
end Go.Proofs.Ytomhfakkebaciaa
