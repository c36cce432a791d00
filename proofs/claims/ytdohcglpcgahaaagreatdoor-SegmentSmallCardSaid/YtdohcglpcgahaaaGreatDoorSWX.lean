/-
  What Write of package segment makes of messages. No program in sight; and what the walk asks of a world. Decimal digits tell their number. No program in sight. The walk of Write of package segment.
-/
import Derived.Test.YtdohcglpcgahaaaGreatDoorSG1
import Derived.Test.YtdohcglpcgahaaaGreatDoorSHI
import Derived.Test.YtdohcglpcgahaaaGreatDoorMP
import Derived.Test.YtdohcglpcgahaaaGreatDoorW7
import Derived.Lib.LaidTab
import Derived.Lib.ItoaNum
import Derived.Lib.Atoi
set_option linter.unusedSimpArgs false
set_option linter.unusedVariables false
namespace Go.Proofs.YtdohcglpcgahaaaGreatDoor
section
open Go Sat Go.RowKit Go.PlainAid
def itB (n : Int) : ByteArray := ⟨(Lib.itoa n).toArray⟩
structure WfT (w : World) : Prop where
  tab : Lib.TabIs Tryz.prog w "internal/strconv.uint64pow10" .u64 Lib.pow10Tab
theorem var_below {P : Program} {w w' : World} {B : Nat} {s : String} {cs : Array Value} (h : w.var? P s = some cs) (hb : Below B w w') (hB : w.heap.size ≤ B) : w'.var? P s = some cs := by
  unfold World.var? at h ⊢
  rw [Option.bind_eq_some_iff] at h ⊢
  obtain ⟨g, h1, h2⟩ := h
  refine ⟨g, h1, ?_⟩
  split at h2
  · rename_i cs' t o e
    rw [hb.block g (Nat.lt_of_lt_of_le (heap_lt e) hB), e]
    exact h2
  · cases h2
theorem WfT.mono {w w' : World} {B : Nat} (h : WfT w) (hb : Below B w w') (hB : w.heap.size ≤ B) : WfT w' := ⟨var_below h.tab hb hB⟩
theorem WfT.at_ {cx : Cx} {H : Heap} {w : World} (h : WfT cx.W) (hn : cx.n0 = cx.W.heap.size) (hM : cx.M = []) (hw : Holds cx H w) : WfT w := h.mono (below_of hn hM hw) (Nat.le_refl _)
theorem itoa_all {w : World} (hw : WfT w) (n : Int) (h0 : -9223372036854775808 ≤ n) (h1 : n ≤ 9223372036854775807) : Calls Tryz.prog 26 #[.int .i64 n] w fun e w' => e = .returned (.string (itB n)) ∧ Below w.heap.size w w' := by
  refine (Tryz.strconv_Itoa n h0 h1 w hw.tab).mono ?_
  rintro e w' ⟨he, k, os, rfl⟩
  refine ⟨he, ⟨rfl, rfl, rfl, by simp [Go.Sort.grow, World.drewN], fun k hk => ?_⟩⟩
  simp only [Go.Sort.grow, World.drewN]
  rw [Array.getElem?_append_left hk]
/-- the segments of a message -/
def headS (m : Msg) : Segm := [[hedS], [m.ref], [m.kind]]
def bodyS (s : Sg) : Segm := [s.1] :: trimS s.2
def tailS (m : Msg) : Segm := [[endS], [itB (m.segs.length + 2)], [m.ref]]
def segsM (m : Msg) : List Segm := headS m :: m.segs.map bodyS ++ [tailS m]
def segsL (l : List Msg) : List Segm := l.flatMap segsM
def okFrom : List ByteArray → List Msg → Bool
  | _, [] => true
  | L, m :: l => rightM m && (!decide (m.ref ∈ L) && okFrom (m.ref :: L) l)
def writeG (l : List Msg) : ByteArray × Int := if okFrom [] l = true then writeL (segsL l) else (emp, 2)
/-- how often a reference was met -/
def metV (L : List ByteArray) : ByteArray → Option Value := fun s => if s ∈ L then some (.int .i64 1) else none
theorem metV_cons (s : ByteArray) (L : List ByteArray) : (fun t => if t = s then some (Value.int .i64 1) else metV L t) = metV (s :: L) := by
  funext t
  unfold metV
  by_cases h : t = s
  · rw [if_pos h, if_pos (by rw [h]; exact List.mem_cons_self)]
  · rw [if_neg h]
    by_cases h2 : t ∈ L
    · rw [if_pos h2, if_pos (List.mem_cons_of_mem _ h2)]
    · rw [if_neg h2, if_neg (by simp [h, h2])]
theorem metV_get (s : ByteArray) (L : List ByteArray) : (metV L s).getD (.int .i64 0) = .int .i64 (if s ∈ L then 1 else 0) := by
  unfold metV
  split <;> rfl
theorem other_updateV {cx : Cx} {H : Heap} {f : Env} {dst : Option Nat} {K : SV → Heap → Prop} {m k x : Operand} {t kt et : Nat} (d : Nat) {g : Nat} {V : ByteArray → Option Value} (V' : ByteArray → Option Value) {s : ByteArray} {u : SV} {op : Op} (hop : op = .mapUpdate t m k x ∨ op = .insert t m k x) (hm : cx.P.underlying t = some (.map kt et)) (hd : cx.P.underlying kt = some .string)
    (hem : ev f .yes m (fun u => u = .v (.map (some g)))) (hek : ev f .yes k (fun u => u = .v (.string s))) (hex : ev f .yes x (fun y => y = u)) (hf : hfind H d = some (HBm g V)) (hV : (fun t => if t = s then some u.real else V t) = V') (hk : K (.v undef) ((d, HBm g V') :: hdel H d)) : OtherM cx H f op dst K := by
  subst hV
  exact other_update d hop hm hd hem hek hex hf hk
theorem trimS_len (l : Dat) : (trimS l).length ≤ l.length := by
  unfold trimS
  rw [List.length_take, List.length_map]
  exact Nat.min_le_right _ _
/-- bounds for a message that is written -/
structure FewW (m : Msg) : Prop where
  kind : m.kind.size ≤ 9223372036854775807
  ref : m.ref.size ≤ 9223372036854775807
  seg : ∀ s ∈ m.segs, FewG s ∧ FewS s.2
theorem FewW.m {m : Msg} (h : FewW m) : FewM m := ⟨h.kind, h.ref, fun s hs => (h.seg s hs).1⟩
theorem called_fuse {cx : Cx} {n : Nat} {args : List SV} {H : Heap} {K : SV → Heap → Prop} (d : Nat) (L : List Nat) (hM : cx.M = []) (h : ∀ w0, Holds cx H w0 → Called cx n args ((d, .own (gsOf H L) (Frz w0 (gsOf H L))) :: delAll (d :: L) H) K) : Called cx n args H K :=
  ⟨fun w hw => (h w hw).out w (hw.fuse_ d L hM)⟩
/-- what lies in two frozen entries -/
theorem two_nest {α : Type} {R : Lies α} (hR : Stays R) {cx : Cx} {d d1 : Nat} {w0 w1 : World} {gs gs1 : List Nat} {v : Value} {l : α} (h : R w0 (fun g => g ∈ gs ∨ g ∈ gs1) v l) {H0 H : Heap} {w : World} (hw0 : Holds cx H0 w0) (hf0 : hfind H0 d1 = some (.own gs1 (Frz w1 gs1))) (hw : Holds cx H w) (hf : hfind H d = some (.own gs (Frz w0 gs))) (hf1 : hfind H d1 = some (.own gs1 (Frz w1 gs1))) (B : Nat → Prop) (hB : ∀ g, g ∈ gs ∨ g ∈ gs1 → B g) : R w B v l :=
  hR _ _ _ _ _ _ h (fun g hg _ => by
    rcases hg with hg | hg
    · exact frz_of hf hw g hg
    · rw [frz_of hf1 hw g hg, frz_of hf0 hw0 g hg]) hB
/-- a row of one's own over what is frozen -/
theorem nest_top {α : Type} {R : Lies α} (hR : Stays R) {cx : Cx} {H : Heap} {w w1 : World} (hw : Holds cx H w) (d1 d2 : Nat) {A : Option (Nat × Nat)} {T n cap : Nat} {xs : List Value} {gs : List Nat} {l : List α} (hf1 : hfind H d1 = some (.row A T 1 n cap xs)) (hf2 : hfind H d2 = some (.own gs (Frz w1 gs))) (hx : Got R w1 gs xs l) (hn : n = l.length) : Nest R w (fun _ => True) (.slice (adr A) n cap) l := by
  subst hn
  exact ⟨A, cap, xs, rfl, row_caps hw hf1, ro_of_row hw hf1, fun p hp hn => ⟨trivial, own_cells0 (hw.at_ hf1) hn p hp⟩, fun i x a h1 h2 => frz_nest hR (hx.at_ i x a h1 h2) hf2 hw⟩
end
section
open Go Sat Go.RowKit Go.PlainAid Go.Lib
theorem decFrom_snoc (l : List UInt8) (acc : Nat) (b : UInt8) : decFrom acc (l ++ [b]) = (decFrom acc l).bind fun m => (digitVal b).map fun d => m * 10 + d := by
  induction l generalizing acc with
  | nil => simp [decFrom]; cases digitVal b <;> rfl
  | cons x l ih =>
    rw [List.cons_append]
    unfold decFrom
    cases digitVal x with
    | none => rfl
    | some d => exact ih _
theorem digitVal_of {d : Nat} (h : d < 10) : digitVal (UInt8.ofNat (48 + d)) = some d := by
  unfold digitVal
  have e : (UInt8.ofNat (48 + d)).toNat = 48 + d := by rw [UInt8.toNat_ofNat']; omega
  rw [e, if_pos (by omega), Nat.add_sub_cancel_left]
theorem dec_back : ∀ (n : Nat), decFrom 0 (decDigits n) = some n := by
  intro n
  induction n using Nat.strongRecOn with
  | _ n ih =>
    rw [decDigits]
    split
    · rename_i h
      unfold decFrom
      rw [digitVal_of h]
      simp [decFrom]
    · rw [decFrom_snoc, ih (n / 10) (by omega), digitVal_of (by omega)]
      simp
      omega
theorem itB_inj {a b : Nat} (h : itB (a : Int) = itB (b : Int)) : a = b := by
  have h1 : Lib.itoa (a : Int) = Lib.itoa (b : Int) := by
    have h2 := congrArg (fun x : ByteArray => x.data.toList) h
    exact h2
  unfold Lib.itoa at h1
  rw [if_neg (by omega), if_neg (by omega), Int.toNat_natCast, Int.toNat_natCast] at h1
  have e1 := dec_back a
  rw [h1, dec_back b] at e1
  exact (Option.some.inj e1).symm
end
section
open Go Sat Go.RowKit Go.PlainAid
abbrev OutS := Option (Nat × Nat) × Nat × List Value × World × List Nat
abbrev outH (n : Nat) (o : OutS) : Heap := [(80, .row o.1 54 1 n o.2.1 o.2.2.1), (77, .own o.2.2.2.2 (Frz o.2.2.2.1 o.2.2.2.2))]
structure OutOk (o : OutS) (l : List Segm) : Prop where
  len : o.2.2.1.length = l.length
  got : Got NS o.2.2.2.1 o.2.2.2.2 o.2.2.1 l
theorem OutOk.cast {o : OutS} {l l' : List Segm} (h : OutOk o l) (e : l = l') : OutOk o l' := e ▸ h
theorem segsL_snoc (l : List Msg) (m : Msg) : segsL (l ++ [m]) = segsL l ++ segsM m := by simp [segsL]
theorem segsM_len (m : Msg) : (segsM m).length = m.segs.length + 2 := by simp [segsM]
theorem OutOk.step {o : OutS} {l : List Segm} {a : Segm} {w : World} {gs : List Nat} {x : Value} {A : Option (Nat × Nat)} {cap : Nat} (h : OutOk o l) (hg : Got NS w gs o.2.2.1 l) (hx : NS w (fun g => g ∈ gs) x a) : OutOk (A, cap, o.2.2.1 ++ [x], w, gs) (l ++ [a]) :=
  ⟨by simp [h.len], hg.ext h.len hx⟩
set_option maxRecDepth 100000 in
set_option maxHeartbeats 16000000 in
theorem writeG_any (l : List Msg) (v : Value) (w : World) (hw : WfT w) (hA : NMsgs NSA w (fun _ => True) v l) (hf : ∀ m ∈ l, FewW m) (hmany : (segsL l).length ≤ 1000000) :
    Calls Tryz.prog 14 #[v] w fun e w' => e = .returned (.tuple #[.string (writeG l).1, .int .i64 (writeG l).2]) ∧ Below w.heap.size w w' := by
  obtain ⟨A', A, cA, xs, rfl, aA, hcA, hrA, -, hxA⟩ := hA
  refine calls_sat (cx := Tryz.cx 79 [3, 10, 13, 14, 15, 16] [] [] w) (Tryz.ok ..) Tryz.func14 rfl [.v (.slice A' l.length cA)] rfl (by show 1 ≤ 79; omega) [] (holds_nil (Nat.le_refl _)) ?_
  have hmax : l.length ≤ 9223372036854775807 := Nat.le_trans (Nat.le_trans hcA.1 hcA.2) (by decide)
  repeat' ((conv => whnf); first | refine walk (Tryz.ok ..) ?_ | fail)
  (conv => whnf)
  refine other_make fun g10 hg10 => ?_
  repeat' ((conv => whnf); first | refine walk (Tryz.ok ..) ?_ | fail)
  refine sat_fuse 77 [] rfl fun w0 hw0 => ?_
  refine sat_ops (Tryz.ok ..) ?_
  repeat' ((conv => whnf); first | refine walk (Tryz.ok ..) ?_ | fail)
  refine sat_loop (Tryz.ok ..) (α := Nat × List Msg × Nat × OutS) (fun t => ([(4, .yes, .v (.map (some g10))), (5, .yes, .o 80 t.2.2.2.1 t.2.2.1 t.2.2.2.2.1), (11, .yes, .v (.slice A' l.length cA)), (12, .yes, .v (.int .i64 l.length)), (13, .yes, .v (.int .i64 t.1))], (10, HBm g10 (metV ((t.2.1.map Msg.ref).reverse))) :: outH t.2.2.1 t.2.2.2))
    (fun t => t.1 ≤ l.length ∧ t.2.1 = l.take t.1 ∧ t.2.2.1 = (segsL t.2.1).length ∧ OutOk t.2.2.2 (segsL t.2.1) ∧ okFrom ((t.2.1.map Msg.ref).reverse) (l.drop t.1) = okFrom [] l) (fun t => l.length - t.1) (fun _ => rfl) ?_ ?_
  · refine ⟨(0, [], 0, none, 0, [], w0, []), ⟨Nat.zero_le _, by simp, rfl, ⟨rfl, Got.nil⟩, rfl⟩, ?_, ?_, rfl⟩
    all_goals ((repeat' (first | exact trivial | exact rfl | refine And.intro ?_ ?_)) <;> (try (conv => whnf)) <;> (try simp only [SV.real, SV.r2, SV.r1]))
  rintro ⟨k, done, n, o⟩ ⟨hk, hdone, hn, ho, hok⟩
  dsimp only at hk hdone hn ho hok ⊢
  by_cases hk1 : k < l.length
  · obtain ⟨m, hm⟩ : ∃ m, l[k]? = some m := ⟨_, List.getElem?_eq_getElem hk1⟩
    obtain ⟨vs, hcs, hvs⟩ := hxA k m hm
    have hvs0 := hvs
    obtain ⟨am, Am, cm, xm, rfl, aAm, hcm, hrm, -, hxm⟩ := hvs0
    have hmaxm : m.segs.length ≤ 9223372036854775807 := Nat.le_trans (Nat.le_trans hcm.1 hcm.2) (by decide)
    have hfm := hf m (List.mem_of_getElem? hm)
    obtain ⟨p, rfl, rfl⟩ := some_ofz aA hrA (by omega)
    repeat' ((conv => whnf); first | refine walk (Tryz.ok ..) ?_ | (refine Cnd.mk (fun h => ?_) (fun h => ?_) <;> (first | exact cndT h (by (try dsimp only); omega) | exact cndF h (by (try dsimp only); omega) | (exfalso; simp at h; omega) | simp at h | skip)) | refine side2 ?_ | refine xi _ (ro_aggz rfl rfl hrA hcs rfl (by rw [mulS_eq, Int.toNat_natCast]) hk1) ?_ | fail)
    (conv => whnf)
    intro g7 hg7
    repeat' ((conv => whnf); first | refine walk (Tryz.ok ..) ?_ | refine side2 ?_ | refine xi _ (And.intro rfl rfl) ?_ | fail)
    (conv => whnf)
    have hdrop : l.drop k = m :: l.drop (k + 1) := by
      rw [List.drop_eq_getElem_cons hk1]
      congr 1
      exact (List.getElem?_eq_some_iff.1 hm).2
    rw [hdrop, okFrom] at hok
    by_cases hmem : m.ref ∈ (done.map Msg.ref).reverse
    · have hV : (metV ((done.map Msg.ref).reverse) m.ref).getD (.int .i64 0) = .int .i64 1 := by rw [metV_get, if_pos hmem]
      have hno : writeG l = (emp, 2) := by
        unfold writeG
        rw [if_neg]
        rw [← hok, decide_eq_true hmem]
        simp
      rw [hno]
      refine other_lookup 10 (.v (.int .i64 1)) Tryz.underlying68 Tryz.underlying9 (fun _ => rfl) rfl rfl rfl hV.symm ?_
      repeat' ((conv => whnf); first | refine sideL2 ?_ | fail)
      (conv => whnf)
      refine other_update 10 (.inl rfl) Tryz.underlying68 Tryz.underlying9 rfl rfl rfl rfl ?_
      repeat' ((conv => whnf); first | refine walk (Tryz.ok ..) ?_ | refine side2 ?_ | fail)
      (conv => whnf)
      refine called_at (.v (.bool (rightM m))) rfl (fun w' hh => by exact rightm_any m _ w' (lent_nest (nsegs_stays nsa_stays) rfl rfl hvs hh) hfm.m) ?_
      repeat' ((conv => whnf); first | refine side2 ?_ | refine xi _ (fun _ => And.intro rfl rfl) ?_ | fail)
      (conv => whnf)
      refine other_lookup 10 (g := g10) (s := m.ref) (.v (.int .i64 2)) Tryz.underlying68 Tryz.underlying9 (fun _ => rfl) ⟨fun h => h, rfl⟩ ⟨fun h => h, rfl⟩ rfl (by rw [if_pos rfl]; rfl) ?_
      repeat' ((conv => whnf); first | refine walk (Tryz.ok ..) ?_ | (refine Cnd.mk (fun h => ?_) (fun h => ?_) <;> (first | exact cndT h (by (try dsimp only); omega) | exact cndF h (by (try dsimp only); omega) | (exfalso; simp at h; omega) | simp at h | skip)) | refine side2 ?_ | fail)
      all_goals exact done_pure rfl rfl rfl
    have hV : (metV ((done.map Msg.ref).reverse) m.ref).getD (.int .i64 0) = .int .i64 0 := by rw [metV_get, if_neg hmem]
    refine other_lookup 10 (.v (.int .i64 0)) Tryz.underlying68 Tryz.underlying9 (fun _ => rfl) rfl rfl rfl hV.symm ?_
    repeat' ((conv => whnf); first | refine sideL2 ?_ | fail)
    (conv => whnf)
    refine other_updateV 10 (metV (m.ref :: (done.map Msg.ref).reverse)) (.inl rfl) Tryz.underlying68 Tryz.underlying9 rfl rfl rfl rfl (metV_cons _ _) ?_
    repeat' ((conv => whnf); first | refine walk (Tryz.ok ..) ?_ | refine side2 ?_ | fail)
    (conv => whnf)
    refine called_at (.v (.bool (rightM m))) rfl (fun w' hh => by exact rightm_any m _ w' (lent_nest (nsegs_stays nsa_stays) rfl rfl hvs hh) hfm.m) ?_
    repeat' ((conv => whnf); first | refine side2 ?_ | refine xi _ (fun _ => And.intro rfl rfl) ?_ | fail)
    (conv => whnf)
    refine other_lookup 10 (g := g10) (s := m.ref) (.v (.int .i64 1)) Tryz.underlying68 Tryz.underlying9 (fun _ => rfl) ⟨fun h => h, rfl⟩ ⟨fun h => h, rfl⟩ rfl (by rw [metV_get, if_pos List.mem_cons_self]; rfl) ?_
    cases hr : rightM m with
    | false =>
      have hno : writeG l = (emp, 2) := by
        unfold writeG
        rw [if_neg]
        rw [← hok, hr]
        simp
      rw [hno]
      repeat' ((conv => whnf); first | refine walk (Tryz.ok ..) ?_ | (refine Cnd.mk (fun h => ?_) (fun h => ?_) <;> (first | exact cndT h (by (try dsimp only); omega) | exact cndF h (by (try dsimp only); omega) | (exfalso; simp at h; omega) | simp at h | skip)) | refine side2 ?_ | fail)
      exact done_pure rfl rfl rfl
    | true =>
    have hpre : n + (m.segs.length + 2) ≤ 1000000 := by
      rw [hn]
      refine Nat.le_trans ?_ hmany
      have e : l = done ++ m :: l.drop (k + 1) := by rw [hdone, ← hdrop, List.take_append_drop]
      have e2 : (segsL l).length = (segsL done).length + (m.segs.length + 2) + (segsL (l.drop (k + 1))).length := by
        rw [e]
        unfold segsL
        rw [List.flatMap_append, List.flatMap_cons, List.length_append, List.length_append]
        have e3 : (segsM m).length = m.segs.length + 2 := by simp [segsM]
        have e4 : l.drop (k + 1) = (done ++ m :: l.drop (k + 1)).drop (k + 1) := by rw [← e]
        rw [← e4, e3]
        omega
      omega
    repeat' ((conv => whnf); first | refine walk (Tryz.ok ..) ?_ | (refine Cnd.mk (fun h => ?_) (fun h => ?_) <;> (first | exact cndT h (by (try dsimp only); omega) | exact cndF h (by (try dsimp only); omega) | (exfalso; simp at h; omega) | simp at h | skip)) | refine side2 ?_ | refine xi _ (And.intro rfl rfl) ?_ | fail)
    (conv => whnf)
    intro g35 hg35
    repeat' ((conv => whnf); first | refine side2 ?_ | refine xi _ (And.intro rfl rfl) ?_ | fail)
    (conv => whnf)
    intro g38 hg38
    skip
    (conv => whnf)
    intro g39 hg39
    skip
    (conv => whnf)
    refine called_fuse 78 [39, 38, 35] rfl fun w1 hw1 => ?_
    have h35 := blk_ownN Text [39, 38, 35] 35 (g := g35) [m.ref] [.string m.ref] hw1 rfl rfl rfl (by unfold maxLen; simp) rfl ⟨rfl, trivial⟩
    have h38 := blk_ownN Text [39, 38, 35] 38 (g := g38) [m.kind] [.string m.kind] hw1 rfl rfl rfl (by unfold maxLen; simp) rfl ⟨rfl, trivial⟩
    have h39 := blk_ownN NE [39, 38, 35] 39 (g := g39) [[m.ref], [m.kind]] [.slice (some ⟨g35, 0, none⟩) 1 1, .slice (some ⟨g38, 0, none⟩) 1 1] hw1 rfl rfl rfl (by unfold maxLen; simp) rfl ⟨h35, h38, trivial⟩
    generalize hgs1 : gsOf _ [39, 38, 35] = gs1 at h39 ⊢
    refine called_nestK 79 (mk := id) (Q := fun w' B v => NS w' (fun g => B g ∨ g ∈ gs1) v (headS m)) (fun v => .v v) (fun _ => rfl) (fun w' hh => by exact row_any _ _ _ w' (fun g => g ∈ gs1) (frz_nest' ns_stays h39 (d := 78) rfl hh (fun _ h => h)) (by simp)) ?_
    intro w2 gs2 v2 h2 hw2
    obtain ⟨a2, n2, c2, hv2⟩ : ∃ a n c, v2 = .slice a n c := by
      obtain ⟨A, cap, xs, hv, -⟩ := h2
      exact ⟨_, _, _, hv⟩
    subst hv2
    skip
    (conv => whnf)
    intro g41 hg41
    repeat' ((conv => whnf); first | refine side2 ?_ | refine Or.inr ?_ | fail)
    (conv => whnf)
    intro A42 cap42
    repeat' ((conv => whnf); first | refine walk (Tryz.ok ..) ?_ | fail)
    refine sat_fuse 77 [77, 79, 78] rfl fun w3 hw3 => ?_
    have hok3 := ho.step (x := .slice a2 n2 c2) (A := A42) (cap := cap42) (ho.got.fuse ns_stays [77, 79, 78] 77 hw3 rfl rfl) (two_nest ns_stays h2 hw2 (d := 79) (d1 := 78) rfl hw3 rfl rfl (fun g => g ∈ gsOf _ [77, 79, 78]) (fun g hg => by
      rcases hg with hg | hg
      · exact gs_sub (i := 79) rfl rfl hg
      · exact gs_sub (i := 78) rfl rfl hg))
    refine sat_ops (Tryz.ok ..) ?_
    repeat' ((conv => whnf); first | refine walk (Tryz.ok ..) ?_ | refine side2 ?_ | refine xi _ (And.intro rfl rfl) ?_ | fail)
    refine sat_loop (Tryz.ok ..) (α := Nat × OutS) (fun t => ([(4, .yes, .v (.map (some g10))), (5, .yes, .o 80 t.2.1 (n + 1 + t.1) t.2.2.1), (7, .yes, .p 7 g7 0 0), (11, .yes, .v (.slice (adr (some p)) l.length cA)), (12, .yes, .v (.int .i64 l.length)), (13, .yes, .v (.int .i64 k)), (44, .yes, .v (.slice am m.segs.length cm)), (45, .yes, .v (.int .i64 m.segs.length)), (46, .yes, .v (.int .i64 t.1))], (7, .blk g7 28 [.v (.string m.kind), .v (.string m.ref), .v (.slice am m.segs.length cm)]) :: (10, HBm g10 (metV (m.ref :: (done.map Msg.ref).reverse))) :: outH (n + 1 + t.1) t.2))
      (fun t => t.1 ≤ m.segs.length ∧ OutOk t.2 (segsL done ++ [headS m] ++ (m.segs.take t.1).map bodyS)) (fun t => m.segs.length - t.1) (fun _ => rfl) ?_ ?_
    · refine ⟨(0, A42, cap42, _, w3, _), ⟨Nat.zero_le _, by rw [List.take_zero, List.map_nil, List.append_nil]; exact hok3⟩, ?_, ?_, rfl⟩
      all_goals ((repeat' (first | exact trivial | exact rfl | refine And.intro ?_ ?_)) <;> (try (conv => whnf)) <;> (try simp only [SV.real, SV.r2, SV.r1]))
    clear hok3 hw3 hw2 h2 hw1 h39 ho
    rintro ⟨j, o⟩ ⟨hj, ho⟩
    dsimp only at hj ho ⊢
    by_cases hj1 : j < m.segs.length
    · obtain ⟨s, hs⟩ : ∃ s, m.segs[j]? = some s := ⟨_, List.getElem?_eq_getElem hj1⟩
      obtain ⟨vd, hcd, hvd⟩ := hxm j s hs
      obtain ⟨q, rfl, rfl⟩ := some_ofz aAm hrm (by omega)
      have hfs := hfm.seg s (List.mem_of_getElem? hs)
      obtain ⟨ad, nd, cd2, hvd'⟩ : ∃ a n c, vd = .slice a n c := by
        obtain ⟨a, A, cap, xs, hv, -⟩ := hvd
        exact ⟨_, _, _, hv⟩
      subst hvd'
      repeat' ((conv => whnf); first | refine walk (Tryz.ok ..) ?_ | (refine Cnd.mk (fun h => ?_) (fun h => ?_) <;> (first | exact cndT h (by (try dsimp only); omega) | exact cndF h (by (try dsimp only); omega) | (exfalso; simp at h; omega) | simp at h | skip)) | refine side2 ?_ | refine xi _ (ro_aggz rfl rfl hrm hcd rfl (by rw [mulS_eq, Int.toNat_natCast]) hj1) ?_ | fail)
      (conv => whnf)
      intro g9 hg9
      repeat' ((conv => whnf); first | refine walk (Tryz.ok ..) ?_ | refine side2 ?_ | fail)
      refine sat_draw (Tryz.ok ..) [] [(9, .blk g9 32 [.v (.string s.1), .v (.slice ad nd cd2)])] (by kernel_rfl) (fun w hw => hw.sub ?_) ?_
      · exact hsub_of rfl
      repeat' ((conv => whnf); first | refine side2 ?_ | refine xi _ (And.intro rfl rfl) ?_ | fail)
      (conv => whnf)
      refine called_nest 78 (mk := id) (Q := fun w B v => NS w B v (trimS s.2)) (fun v => .v v) (fun _ => rfl) (fun w' hh => by exact trim_any s.2 _ w' (lent_nest nsa_stays rfl rfl hvd hh) hfs.2) ?_
      intro w1 gs1 v1 h39
      obtain ⟨a1, n1, c1, hv1⟩ : ∃ a n c, v1 = .slice a n c := by
        obtain ⟨A, cap, xs, hv, -⟩ := h39
        exact ⟨_, _, _, hv⟩
      subst hv1
      repeat' ((conv => whnf); first | refine kp ?_ ?_ | exact trivial | refine side2 ?_ | fail)
      (conv => whnf)
      refine called_nestK 79 (mk := id) (Q := fun w' B v => NS w' (fun g => B g ∨ g ∈ gs1) v (bodyS s)) (fun v => .v v) (fun _ => rfl) (fun w' hh => by exact row_any _ _ _ w' (fun g => g ∈ gs1) (frz_nest' ns_stays h39 (d := 78) rfl hh (fun _ h => h)) (Nat.le_trans (Nat.mul_le_mul_right 24 (trimS_len s.2)) hfs.1.dat)) ?_
      intro w2 gs2 v2 h2 hw2
      obtain ⟨a2, n2, c2, hv2⟩ : ∃ a n c, v2 = .slice a n c := by
        obtain ⟨A, cap, xs, hv, -⟩ := h2
        exact ⟨_, _, _, hv⟩
      subst hv2
      repeat' ((conv => whnf); first | refine kp ?_ ?_ | exact trivial | refine side2 ?_ | fail)
      (conv => whnf)
      intro g41 hg41
      repeat' ((conv => whnf); first | refine kp ?_ ?_ | exact trivial | refine side2 ?_ | refine Or.inr ?_ | fail)
      (conv => whnf)
      intro A42 cap42
      repeat' ((conv => whnf); first | refine walk (Tryz.ok ..) ?_ | refine kp ?_ ?_ | exact trivial | refine side2 ?_ | fail)
      refine sat_fuse 77 [77, 79, 78] rfl fun w3 hw3 => ?_
      have hok3 := ho.step (x := .slice a2 n2 c2) (A := A42) (cap := cap42) (ho.got.fuse ns_stays [77, 79, 78] 77 hw3 rfl rfl) (two_nest ns_stays h2 hw2 (d := 79) (d1 := 78) rfl hw3 rfl rfl (fun g => g ∈ gsOf _ [77, 79, 78]) (fun g hg => by
        rcases hg with hg | hg
        · exact gs_sub (i := 79) rfl rfl hg
        · exact gs_sub (i := 78) rfl rfl hg))
      refine sat_ops (Tryz.ok ..) ?_
      repeat' ((conv => whnf); first | refine sideL2 ?_ | fail)
      refine ⟨(j + 1, A42, cap42, _, w3, _), ⟨⟨hj1, by rw [List.take_add_one, hs, List.map_append, ← List.append_assoc]; exact hok3⟩, by show m.segs.length - (j + 1) < m.segs.length - j; omega⟩, ?_, ?_, rfl⟩
      all_goals ((repeat' (first | exact trivial | exact rfl | refine And.intro ?_ ?_)) <;> (try (conv => whnf)) <;> (try simp only [SV.real, SV.r2, SV.r1]))
    obtain rfl : j = m.segs.length := by omega
    rw [List.take_length] at ho
    repeat' ((conv => whnf); first | refine walk (Tryz.ok ..) ?_ | (refine Cnd.mk (fun h => ?_) (fun h => ?_) <;> (first | exact cndT h (by (try dsimp only); omega) | exact cndF h (by (try dsimp only); omega) | (exfalso; simp at h; omega) | simp at h | skip)) | fail)
    refine sat_draw (Tryz.ok ..) [] [(7, .blk g7 28 [.v (.string m.kind), .v (.string m.ref), .v (.slice am m.segs.length cm)])] (by kernel_rfl) (fun w hw => hw.sub ?_) ?_
    · exact hsub_of rfl
    repeat' ((conv => whnf); first | refine tw ?_ ?_ | refine side2 ?_ | refine sideL2 ?_ | refine xi _ (And.intro rfl rfl) ?_ | fail)
    · (conv => whnf)
      refine called_at (.v (.string (itB (m.segs.length + 2)))) rfl (fun w' hh => by exact itoa_all (hw.at_ rfl rfl hh) _ (by omega) (by omega)) ?_
      repeat' ((conv => whnf); first | refine kp ?_ ?_ | refine tw ?_ ?_ | exact trivial | refine side2 ?_ | fail)
      · (conv => whnf)
        intro g66 hg66
        repeat' ((conv => whnf); first | refine kp ?_ ?_ | exact trivial | refine side2 ?_ | fail)
        (conv => whnf)
        intro g69 hg69
        repeat' ((conv => whnf); first | refine kp ?_ ?_ | exact trivial | refine side2 ?_ | fail)
        (conv => whnf)
        intro g70 hg70
        repeat' ((conv => whnf); first | refine kp ?_ ?_ | exact trivial | refine side2 ?_ | fail)
        (conv => whnf)
        refine called_fuse 78 [70, 69, 66] rfl fun w1 hw1 => ?_
        have h66 := blk_ownN Text [70, 69, 66] 66 (g := g66) [itB (m.segs.length + 2)] [.string (itB (m.segs.length + 2))] hw1 rfl rfl rfl (by unfold maxLen; simp) rfl ⟨rfl, trivial⟩
        have h69 := blk_ownN Text [70, 69, 66] 69 (g := g69) [m.ref] [.string m.ref] hw1 rfl rfl rfl (by unfold maxLen; simp) rfl ⟨rfl, trivial⟩
        have h39 := blk_ownN NE [70, 69, 66] 70 (g := g70) [[itB (m.segs.length + 2)], [m.ref]] [.slice (some ⟨g66, 0, none⟩) 1 1, .slice (some ⟨g69, 0, none⟩) 1 1] hw1 rfl rfl rfl (by unfold maxLen; simp) rfl ⟨h66, h69, trivial⟩
        generalize hgs1 : gsOf _ [70, 69, 66] = gs1 at h39 ⊢
        refine called_nestK 79 (mk := id) (Q := fun w' B v => NS w' (fun g => B g ∨ g ∈ gs1) v (tailS m)) (fun v => .v v) (fun _ => rfl) (fun w' hh => by exact row_any _ _ _ w' (fun g => g ∈ gs1) (frz_nest' ns_stays h39 (d := 78) rfl hh (fun _ h => h)) (by simp)) ?_
        intro w2 gs2 v2 h2 hw2
        obtain ⟨a2, n2, c2, hv2⟩ : ∃ a n c, v2 = .slice a n c := by
          obtain ⟨A, cap, xs, hv, -⟩ := h2
          exact ⟨_, _, _, hv⟩
        subst hv2
        repeat' ((conv => whnf); first | refine kp ?_ ?_ | exact trivial | refine side2 ?_ | fail)
        (conv => whnf)
        intro g41 hg41
        repeat' ((conv => whnf); first | refine kp ?_ ?_ | exact trivial | refine side2 ?_ | refine Or.inr ?_ | fail)
        (conv => whnf)
        intro A42 cap42
        repeat' ((conv => whnf); first | refine walk (Tryz.ok ..) ?_ | refine kp ?_ ?_ | exact trivial | refine side2 ?_ | fail)
        refine sat_fuse 77 [77, 79, 78] rfl fun w3 hw3 => ?_
        have hok3 := ho.step (x := .slice a2 n2 c2) (A := A42) (cap := cap42) (ho.got.fuse ns_stays [77, 79, 78] 77 hw3 rfl rfl) (two_nest ns_stays h2 hw2 (d := 79) (d1 := 78) rfl hw3 rfl rfl (fun g => g ∈ gsOf _ [77, 79, 78]) (fun g hg => by
          rcases hg with hg | hg
          · exact gs_sub (i := 79) rfl rfl hg
          · exact gs_sub (i := 78) rfl rfl hg))
        have hok4 := hok3.cast (l' := segsL (done ++ [m])) (by rw [segsL_snoc]; simp [segsM])
        refine sat_ops (Tryz.ok ..) ?_
        repeat' ((conv => whnf); first | refine sideL2 ?_ | fail)
        refine ⟨(k + 1, done ++ [m], n + 1 + m.segs.length + 1, A42, cap42, _, w3, _), ⟨⟨hk1, ?_, ?_, hok4, ?_⟩, by show l.length - (k + 1) < l.length - k; omega⟩, ?_, ?_, rfl⟩
        · rw [List.take_add_one, hm, hdone]; rfl
        · show n + 1 + m.segs.length + 1 = (segsL (done ++ [m])).length
          rw [segsL_snoc, List.length_append, segsM_len, ← hn]; omega
        · rw [List.map_append, List.reverse_append]; rw [← hok]; simp [hr, hmem]
        all_goals ((repeat' (first | exact trivial | exact rfl | refine And.intro ?_ ?_)) <;> (try (conv => whnf)) <;> (try simp only [SV.real, SV.r2, SV.r1]))
        all_goals simp only [List.map_append, List.reverse_append, List.map_cons, List.map_nil, List.reverse_cons, List.reverse_nil, List.nil_append, List.singleton_append]
      · (conv => whnf)
        intro g69 hg69
        repeat' ((conv => whnf); first | refine kp ?_ ?_ | exact trivial | refine side2 ?_ | fail)
        (conv => whnf)
        intro g66 hg66
        repeat' ((conv => whnf); first | refine kp ?_ ?_ | exact trivial | refine side2 ?_ | fail)
        (conv => whnf)
        intro g70 hg70
        repeat' ((conv => whnf); first | refine kp ?_ ?_ | exact trivial | refine side2 ?_ | fail)
        (conv => whnf)
        refine called_fuse 78 [70, 69, 66] rfl fun w1 hw1 => ?_
        have h66 := blk_ownN Text [70, 69, 66] 66 (g := g66) [itB (m.segs.length + 2)] [.string (itB (m.segs.length + 2))] hw1 rfl rfl rfl (by unfold maxLen; simp) rfl ⟨rfl, trivial⟩
        have h69 := blk_ownN Text [70, 69, 66] 69 (g := g69) [m.ref] [.string m.ref] hw1 rfl rfl rfl (by unfold maxLen; simp) rfl ⟨rfl, trivial⟩
        have h39 := blk_ownN NE [70, 69, 66] 70 (g := g70) [[itB (m.segs.length + 2)], [m.ref]] [.slice (some ⟨g66, 0, none⟩) 1 1, .slice (some ⟨g69, 0, none⟩) 1 1] hw1 rfl rfl rfl (by unfold maxLen; simp) rfl ⟨h66, h69, trivial⟩
        generalize hgs1 : gsOf _ [70, 69, 66] = gs1 at h39 ⊢
        refine called_nestK 79 (mk := id) (Q := fun w' B v => NS w' (fun g => B g ∨ g ∈ gs1) v (tailS m)) (fun v => .v v) (fun _ => rfl) (fun w' hh => by exact row_any _ _ _ w' (fun g => g ∈ gs1) (frz_nest' ns_stays h39 (d := 78) rfl hh (fun _ h => h)) (by simp)) ?_
        intro w2 gs2 v2 h2 hw2
        obtain ⟨a2, n2, c2, hv2⟩ : ∃ a n c, v2 = .slice a n c := by
          obtain ⟨A, cap, xs, hv, -⟩ := h2
          exact ⟨_, _, _, hv⟩
        subst hv2
        repeat' ((conv => whnf); first | refine kp ?_ ?_ | exact trivial | refine side2 ?_ | fail)
        (conv => whnf)
        intro g41 hg41
        repeat' ((conv => whnf); first | refine kp ?_ ?_ | exact trivial | refine side2 ?_ | refine Or.inr ?_ | fail)
        (conv => whnf)
        intro A42 cap42
        repeat' ((conv => whnf); first | refine walk (Tryz.ok ..) ?_ | refine kp ?_ ?_ | exact trivial | refine side2 ?_ | fail)
        refine sat_fuse 77 [77, 79, 78] rfl fun w3 hw3 => ?_
        have hok3 := ho.step (x := .slice a2 n2 c2) (A := A42) (cap := cap42) (ho.got.fuse ns_stays [77, 79, 78] 77 hw3 rfl rfl) (two_nest ns_stays h2 hw2 (d := 79) (d1 := 78) rfl hw3 rfl rfl (fun g => g ∈ gsOf _ [77, 79, 78]) (fun g hg => by
          rcases hg with hg | hg
          · exact gs_sub (i := 79) rfl rfl hg
          · exact gs_sub (i := 78) rfl rfl hg))
        have hok4 := hok3.cast (l' := segsL (done ++ [m])) (by rw [segsL_snoc]; simp [segsM])
        refine sat_ops (Tryz.ok ..) ?_
        repeat' ((conv => whnf); first | refine sideL2 ?_ | fail)
        refine ⟨(k + 1, done ++ [m], n + 1 + m.segs.length + 1, A42, cap42, _, w3, _), ⟨⟨hk1, ?_, ?_, hok4, ?_⟩, by show l.length - (k + 1) < l.length - k; omega⟩, ?_, ?_, rfl⟩
        · rw [List.take_add_one, hm, hdone]; rfl
        · show n + 1 + m.segs.length + 1 = (segsL (done ++ [m])).length
          rw [segsL_snoc, List.length_append, segsM_len, ← hn]; omega
        · rw [List.map_append, List.reverse_append]; rw [← hok]; simp [hr, hmem]
        all_goals ((repeat' (first | exact trivial | exact rfl | refine And.intro ?_ ?_)) <;> (try (conv => whnf)) <;> (try simp only [SV.real, SV.r2, SV.r1]))
        all_goals simp only [List.map_append, List.reverse_append, List.map_cons, List.map_nil, List.reverse_cons, List.reverse_nil, List.nil_append, List.singleton_append]
    · (conv => whnf)
      intro g69 hg69
      repeat' ((conv => whnf); first | refine kp ?_ ?_ | exact trivial | refine side2 ?_ | fail)
      (conv => whnf)
      refine called_at (.v (.string (itB (m.segs.length + 2)))) rfl (fun w' hh => by exact itoa_all (hw.at_ rfl rfl hh) _ (by omega) (by omega)) ?_
      repeat' ((conv => whnf); first | refine kp ?_ ?_ | exact trivial | refine side2 ?_ | fail)
      (conv => whnf)
      intro g66 hg66
      repeat' ((conv => whnf); first | refine kp ?_ ?_ | exact trivial | refine side2 ?_ | fail)
      (conv => whnf)
      intro g70 hg70
      repeat' ((conv => whnf); first | refine kp ?_ ?_ | exact trivial | refine side2 ?_ | fail)
      (conv => whnf)
      refine called_fuse 78 [70, 69, 66] rfl fun w1 hw1 => ?_
      have h66 := blk_ownN Text [70, 69, 66] 66 (g := g66) [itB (m.segs.length + 2)] [.string (itB (m.segs.length + 2))] hw1 rfl rfl rfl (by unfold maxLen; simp) rfl ⟨rfl, trivial⟩
      have h69 := blk_ownN Text [70, 69, 66] 69 (g := g69) [m.ref] [.string m.ref] hw1 rfl rfl rfl (by unfold maxLen; simp) rfl ⟨rfl, trivial⟩
      have h39 := blk_ownN NE [70, 69, 66] 70 (g := g70) [[itB (m.segs.length + 2)], [m.ref]] [.slice (some ⟨g66, 0, none⟩) 1 1, .slice (some ⟨g69, 0, none⟩) 1 1] hw1 rfl rfl rfl (by unfold maxLen; simp) rfl ⟨h66, h69, trivial⟩
      generalize hgs1 : gsOf _ [70, 69, 66] = gs1 at h39 ⊢
      refine called_nestK 79 (mk := id) (Q := fun w' B v => NS w' (fun g => B g ∨ g ∈ gs1) v (tailS m)) (fun v => .v v) (fun _ => rfl) (fun w' hh => by exact row_any _ _ _ w' (fun g => g ∈ gs1) (frz_nest' ns_stays h39 (d := 78) rfl hh (fun _ h => h)) (by simp)) ?_
      intro w2 gs2 v2 h2 hw2
      obtain ⟨a2, n2, c2, hv2⟩ : ∃ a n c, v2 = .slice a n c := by
        obtain ⟨A, cap, xs, hv, -⟩ := h2
        exact ⟨_, _, _, hv⟩
      subst hv2
      repeat' ((conv => whnf); first | refine kp ?_ ?_ | exact trivial | refine side2 ?_ | fail)
      (conv => whnf)
      intro g41 hg41
      repeat' ((conv => whnf); first | refine kp ?_ ?_ | exact trivial | refine side2 ?_ | refine Or.inr ?_ | fail)
      (conv => whnf)
      intro A42 cap42
      repeat' ((conv => whnf); first | refine walk (Tryz.ok ..) ?_ | refine kp ?_ ?_ | exact trivial | refine side2 ?_ | fail)
      refine sat_fuse 77 [77, 79, 78] rfl fun w3 hw3 => ?_
      have hok3 := ho.step (x := .slice a2 n2 c2) (A := A42) (cap := cap42) (ho.got.fuse ns_stays [77, 79, 78] 77 hw3 rfl rfl) (two_nest ns_stays h2 hw2 (d := 79) (d1 := 78) rfl hw3 rfl rfl (fun g => g ∈ gsOf _ [77, 79, 78]) (fun g hg => by
        rcases hg with hg | hg
        · exact gs_sub (i := 79) rfl rfl hg
        · exact gs_sub (i := 78) rfl rfl hg))
      have hok4 := hok3.cast (l' := segsL (done ++ [m])) (by rw [segsL_snoc]; simp [segsM])
      refine sat_ops (Tryz.ok ..) ?_
      repeat' ((conv => whnf); first | refine sideL2 ?_ | fail)
      refine ⟨(k + 1, done ++ [m], n + 1 + m.segs.length + 1, A42, cap42, _, w3, _), ⟨⟨hk1, ?_, ?_, hok4, ?_⟩, by show l.length - (k + 1) < l.length - k; omega⟩, ?_, ?_, rfl⟩
      · rw [List.take_add_one, hm, hdone]; rfl
      · show n + 1 + m.segs.length + 1 = (segsL (done ++ [m])).length
        rw [segsL_snoc, List.length_append, segsM_len, ← hn]; omega
      · rw [List.map_append, List.reverse_append]; rw [← hok]; simp [hr, hmem]
      all_goals ((repeat' (first | exact trivial | exact rfl | refine And.intro ?_ ?_)) <;> (try (conv => whnf)) <;> (try simp only [SV.real, SV.r2, SV.r1]))
      all_goals simp only [List.map_append, List.reverse_append, List.map_cons, List.map_nil, List.reverse_cons, List.reverse_nil, List.nil_append, List.singleton_append]
  obtain rfl : k = l.length := by omega
  rw [List.take_length] at hdone
  subst hdone
  rw [List.drop_length] at hok
  have hok2 : okFrom [] done = true := by rw [← hok]; rfl
  have hW : writeG done = writeL (segsL done) := by unfold writeG; rw [if_pos hok2]
  rw [hW]
  repeat' ((conv => whnf); first | refine walk (Tryz.ok ..) ?_ | (refine Cnd.mk (fun h => ?_) (fun h => ?_) <;> (first | exact cndT h (by (try dsimp only); omega) | exact cndF h (by (try dsimp only); omega) | (exfalso; simp at h; omega) | simp at h | skip)) | fail)
  (conv => whnf)
  refine called_at (.t [.v (.string (writeL (segsL done)).1), .v (.int .i64 (writeL (segsL done)).2)]) rfl (fun w' hh => by exact write_any (segsL done) _ w' (nest_top ns_stays hh 80 77 rfl rfl ho.got hn)) ?_
  repeat' ((conv => whnf); first | refine walk (Tryz.ok ..) ?_ | fail)
  exact done_pure rfl rfl rfl
end
end Go.Proofs.YtdohcglpcgahaaaGreatDoor
