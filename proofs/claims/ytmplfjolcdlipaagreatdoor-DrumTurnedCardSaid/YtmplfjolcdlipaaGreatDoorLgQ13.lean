/- A drum with other batches; lists of batches, as the statements ask for them. -/
import Derived.Test.YtmplfjolcdlipaaGreatDoorLeQ13
import Derived.Test.YtmplfjolcdlipaaGreatDoorXQ13
import Derived.Test.YtmplfjolcdlipaaGreatDoorLbQ13
import Derived.Test.YtmplfjolcdlipaaGreatDoorLfQ13
import Derived.Test.YtmplfjolcdlipaaGreatDoorLdQ13
set_option linter.unusedVariables false
set_option linter.unusedSimpArgs false
namespace Go.Abs
open Go.Proofs
set_option linter.unusedVariables false
set_option linter.unusedSimpArgs false
set_option maxRecDepth 100000
def withB (d : Drum) (B : List Batch) : Drum := { d with batches := B }
section
variable (d : Drum) (B : List Batch)
theorem wb_fwd (a : Acid) : ∀ i, fwdS (withB d B) a i = fwdS d a i
  | 0 => rfl
  | i + 1 => by simp only [fwdS, wb_fwd a i]; rfl
theorem wb_bwd (a : Acid) : ∀ i, bwdS (withB d B) a i = bwdS d a i
  | 0 => wb_fwd d B a _
  | i + 1 => by simp only [bwdS, wb_bwd a i, wb_fwd]; rfl
theorem wb_strong : strongL (withB d B) = strongL d := by
  funext a
  unfold strongL
  refine List.map_congr_left fun i _ => ?_
  exact wb_bwd d B a _
theorem wb_may (a : Acid) : mayB (withB d B) a = mayB d a := by
  unfold mayB; simp only [wb_fwd]; rfl
theorem wb_filled : filledL (withB d B) = filledL d := by
  unfold filledL
  simp only [wb_may]; rfl
theorem wb_bounds (b : Batch) (h : Nat) : boundsI (withB d B) b h = boundsI d b h := by
  unfold boundsI hardS weakS
  rw [wb_filled, wb_strong]
theorem wb_win1 (b : Batch) : winP1 (withB d B) b = winP1 d b := by
  unfold winP1 smoothI thinI
  simp only [wb_bounds]; rfl
theorem wb_win : winP (withB d B) = B.map (winP1 d) := by
  unfold winP
  refine List.map_congr_left fun b _ => ?_
  exact wb_win1 d B b
theorem wb_all_iff {n : Int} : inS (allW (withB d B)) n ↔ (0 ≤ n ∧ n ≤ 12) ∧ ∀ b ∈ B, inS (winP1 d b) n := by
  rw [all_iff]
  simp only [wb_win1]; rfl
theorem wb_ok (hd : drumOK d) (hl : B.length ≤ 1000) : drumOK (withB d B) := ⟨hd.1, hd.2.1, hd.2.2.1, hl⟩
theorem wb_P (hP : DrumP d) (h1 : 1 ≤ B.length) (h5 : B.length ≤ 5) (hb : ∀ b ∈ B, b ∈ d.batches) : DrumP (withB d B) :=
  { hP with b0 := h1, b1 := h5, batch := fun b h => hP.batch b (hb b h) }
end
theorem wb_drum (d : Drum) (B : List Batch) : eDrum (withB d B) = .agg [.sl (d.acids.map eAcid), vi d.known, vi d.hours, eInts d.adds, .sl (d.strips.map eStrip), .sl (B.map eBatch)] := rfl
end Go.Abs
namespace Go.Abs
open Go.Proofs
set_option linter.unusedVariables false
set_option linter.unusedSimpArgs false
set_option maxRecDepth 100000
end Go.Abs
namespace Go.Abs
open Go.Proofs
set_option linter.unusedVariables false
set_option linter.unusedSimpArgs false
set_option maxRecDepth 100000
theorem err_same {d : Drum} {B : List Batch} (hP : DrumP d) (hx : DrumP (withB d B)) : errE (withB d B) true = errE d true := by
  rcases err_cases (drumP_of.2 hP) with ⟨h, e⟩ | ⟨h, e⟩
  · rcases err_cases (drumP_of.2 hx) with ⟨g, f⟩ | ⟨g, f⟩
    · rw [e, f]
    · rw [wb_filled] at g; exact absurd h g
  · rcases err_cases (drumP_of.2 hx) with ⟨g, f⟩ | ⟨g, f⟩
    · rw [wb_filled] at g; exact absurd g h
    · rw [e, f]
theorem named_spec {W : List Span} {n : Nat} (hn : W.length = n) (h1 : 1 ≤ n) (h5 : n ≤ 5) : namedI W ∈ orderN n ∧ restB W (namedI W) = true ∧ ∀ g ∈ orderN n, lessN g (namedI W) = true → restB W g = false := by
  subst hn
  have hex : (orderN W.length).find? (restB W) = some (namedI W) := by
    unfold namedI
    cases h : (orderN W.length).find? (restB W) with
    | some l => rfl
    | none =>
      exfalso
      rw [List.find?_eq_none] at h
      refine h _ ?_ (rest_all W)
      refine orderN_mem.2 ⟨by simp, ?_, fun x hx => ?_⟩
      · rw [List.pairwise_map]
        exact (List.pairwise_lt_range).imp fun h => by omega
      · obtain ⟨i, hi, rfl⟩ := List.mem_map.1 hx
        have := List.mem_range.1 hi; omega
  refine ⟨List.mem_of_find?_eq_some hex, ?_, fun g hg hlt => ?_⟩
  · have := List.find?_some hex; exact this
  · obtain ⟨hp, ps, bs, e, has⟩ := List.find?_eq_some_iff_append.1 hex
    have hm := List.mem_of_find?_eq_some hex
    have hr := (orders_ok h1 h5).1
    have := List.all_eq_true.1 (List.all_eq_true.1 hr g hg) _ hm
    have hlt' : (orderN W.length).idxOf g < (orderN W.length).idxOf (namedI W) := by
      rw [hlt] at this
      simpa using this
    have hnas : namedI W ∉ ps := fun h => by
      have := has _ h
      rw [hp] at this; cases this
    rw [e, List.idxOf_append, List.idxOf_append, if_neg hnas] at hlt'
    by_cases hga : g ∈ ps
    · have := has g hga
      simpa using this
    · rw [if_neg hga] at hlt'
      have e0 : (namedI W :: bs).idxOf (namedI W) = 0 := by simp
      rw [e0] at hlt'
      omega
end Go.Abs
namespace Go.Abs
set_option linter.unusedVariables false
theorem nodup_le : ∀ (l m : List Int), l.Nodup → (∀ x ∈ l, x ∈ m) → l.length ≤ m.length
  | [], m, _, _ => Nat.zero_le _
  | x :: l, m, hn, hs => by
    rw [List.nodup_cons] at hn
    have hx := hs x (by simp)
    have ih := nodup_le l (m.erase x) hn.2 fun y hy => by
      have hne : y ≠ x := fun e => hn.1 (e ▸ hy)
      exact (List.mem_erase_of_ne hne).2 (hs y (by simp [hy]))
    rw [List.length_erase_of_mem hx] at ih
    have : 0 < m.length := List.length_pos_of_mem hx
    simp only [List.length_cons]
    omega
def outB (p : Int) (s : Span) : Bool := !inB p s.low s.high
def missL (W : List Span) (p : Int) : List Int := ((List.range W.length).filter fun i => outB p (W.getD i ⟨0, 0⟩)).map fun i : Nat => (i : Int)
theorem out_iff {p : Int} {s : Span} : outB p s = false ↔ inS s p := by
  unfold outB inB inS
  simp only [Bool.not_eq_false', Bool.and_eq_true, decide_eq_true_eq]
theorem range_getD (W : List Span) : (List.range W.length).map (fun i => W.getD i ⟨0, 0⟩) = W := by
  apply List.ext_getElem
  · simp
  · intro i h1 h2
    simp [List.getD_eq_getElem?_getD, h2]
theorem miss_len (W : List Span) (p : Int) : (missL W p).length = W.countP (outB p) := by
  unfold missL
  rw [List.length_map, ← List.countP_eq_length_filter]
  conv => rhs; rw [← range_getD W]
  rw [List.countP_map]; rfl
theorem miss_mem {W : List Span} {p : Int} {i : Nat} {s : Span} (h : W[i]? = some s) : (i : Int) ∈ missL W p ↔ outB p s = true := by
  unfold missL
  have hi := (List.getElem?_eq_some_iff.1 h).1
  rw [List.mem_map]
  constructor
  · rintro ⟨j, hj, e⟩
    have e : j = i := by omega
    subst e
    have := (List.mem_filter.1 hj).2
    rw [List.getD_eq_getElem?_getD, h] at this
    exact this
  · intro ho
    exact ⟨i, List.mem_filter.2 ⟨List.mem_range.2 hi, by rw [List.getD_eq_getElem?_getD, h]; exact ho⟩, rfl⟩
theorem miss_order (W : List Span) (p : Int) : missL W p ∈ orderN W.length := by
  unfold missL
  refine orderN_mem.2 ⟨?_, ?_, fun x hx => ?_⟩
  · rw [List.length_map]
    refine Nat.le_trans (List.length_filter_le _ _) ?_
    simp
  · rw [List.pairwise_map]
    exact ((List.pairwise_lt_range).filter _).imp fun h => by omega
  · obtain ⟨i, hi, rfl⟩ := List.mem_map.1 hx
    have := List.mem_range.1 (List.mem_filter.1 hi).1
    omega
theorem miss_rest {W : List Span} {p : Int} (hp : 0 ≤ p ∧ p ≤ 12) : restB W (missL W p) = true := by
  refine open_iff.2 ⟨p, pick_iff.2 ⟨hp, fun i s hi hq => ?_⟩⟩
  rw [← out_iff]
  cases ho : outB p s with
  | false => rfl
  | true =>
    have := (miss_mem hi).2 ho
    simp only [Bool.not_eq_true', ← Bool.not_eq_true, List.contains_iff_mem] at hq
    exact absurd this hq
theorem named_le {W : List Span} (h1 : 1 ≤ W.length) (h5 : W.length ≤ 5) {g : List Int} (hg : g ∈ orderN W.length) (hr : restB W g = true) : (namedI W).length ≤ g.length := by
  obtain ⟨_, _, n3⟩ := named_spec rfl h1 h5
  by_cases h : g.length < (namedI W).length
  · have := n3 g hg (by unfold lessN; rw [decide_eq_true h]; rfl)
    rw [hr] at this; cases this
  · omega
theorem named_count {W : List Span} (h1 : 1 ≤ W.length) (h5 : W.length ≤ 5) : (∀ p, 0 ≤ p → p ≤ 12 → (namedI W).length ≤ W.countP (outB p)) ∧ ∃ p, 0 ≤ p ∧ p ≤ 12 ∧ W.countP (outB p) ≤ (namedI W).length := by
  refine ⟨fun p h0 h12 => by rw [← miss_len]; exact named_le h1 h5 (miss_order W p) (miss_rest ⟨h0, h12⟩), ?_⟩
  obtain ⟨m1, m2, _⟩ := named_spec rfl h1 h5
  obtain ⟨p, hp⟩ := open_iff.1 m2
  obtain ⟨hpb, hp⟩ := pick_iff.1 hp
  refine ⟨p, hpb.1, hpb.2, ?_⟩
  rw [← miss_len]
  refine nodup_le _ _ ?_ fun x hx => ?_
  · have := (orderN_mem.1 (miss_order W p)).2.1
    exact this.imp fun h => by omega
  · obtain ⟨_, _, h3⟩ := orderN_mem.1 (miss_order W p)
    have hxb := h3 x hx
    obtain ⟨i, rfl⟩ : ∃ i : Nat, x = i := ⟨x.toNat, by omega⟩
    obtain ⟨s, hs⟩ : ∃ s, W[i]? = some s := ⟨W[i]'(by omega), by simp⟩
    have ho := (miss_mem hs).1 hx
    cases hc : (namedI W).contains (i : Int) with
    | true => exact List.contains_iff_mem.1 hc
    | false =>
      have := out_iff.2 (hp i s hs (by rw [hc]; rfl))
      rw [ho] at this; cases this
theorem named_perm {W V : List Span} (hp : W.Perm V) (h1 : 1 ≤ W.length) (h5 : W.length ≤ 5) : (namedI W).length = (namedI V).length := by
  have hl := hp.length_eq
  obtain ⟨a1, p, a2, a3, a4⟩ := named_count h1 h5
  obtain ⟨b1, q, b2, b3, b4⟩ := named_count (W := V) (by omega) (by omega)
  have e1 := b1 p a2 a3
  have e2 := a1 q b2 b3
  rw [hp.countP_eq] at e2 a4
  omega
theorem best_first : ∀ (k : Nat) (M : List (List Int)), M.length = k → ∀ b, bestL fewB M = some b → ∃ ps bs, M = ps ++ b :: bs ∧ (∀ a ∈ ps, runsI b < runsI a) ∧ ∀ a ∈ bs, runsI b ≤ runsI a
  | 0, M, hk, b, hb => by rw [List.length_eq_zero_iff] at hk; subst hk; cases hb
  | k + 1, M, hk, b, hb => by
    obtain ⟨N, x, rfl⟩ : ∃ N x, M = N ++ [x] := ⟨M.dropLast, M.getLast (by intro e; rw [e] at hk; cases hk), (List.dropLast_concat_getLast _).symm⟩
    have hN : N.length = k := by simpa using hk
    rw [best_succ] at hb
    cases ho : bestL fewB N with
    | none =>
      rw [ho] at hb
      have hb : some x = some b := hb
      cases hb
      cases N with
      | nil => exact ⟨[], [], rfl, by simp, by simp⟩
      | cons y N => cases ho
    | some o =>
      rw [ho] at hb
      have hb : some (if fewB x o then x else o) = some b := hb
      obtain ⟨ps, bs, e, h1, h2⟩ := best_first k N hN o ho
      by_cases hf : runsI x < runsI o
      · have : fewB x o = true := decide_eq_true hf
        rw [if_pos this] at hb
        cases hb
        refine ⟨N, [], rfl, fun a ha => ?_, by simp⟩
        rw [e] at ha
        rcases List.mem_append.1 ha with ha | ha
        · have := h1 a ha; omega
        · rcases List.mem_cons.1 ha with rfl | ha
          · exact hf
          · have := h2 a ha; omega
      · have : fewB x o = false := decide_eq_false hf
        rw [if_neg (by rw [this]; decide)] at hb
        cases hb
        refine ⟨ps, bs ++ [x], by rw [e]; simp, h1, fun a ha => ?_⟩
        rcases List.mem_append.1 ha with ha | ha
        · exact h2 a ha
        · simp at ha; subst ha; omega
theorem sort_best {W : List Span} (hne : (levelI W.length []).filter (sortsB W) ≠ []) : ∃ ps bs, (levelI W.length []).filter (sortsB W) = ps ++ sortI W :: bs ∧ (∀ a ∈ ps, runsI (sortI W) < runsI a) ∧ ∀ a ∈ bs, runsI (sortI W) ≤ runsI a := by
  unfold sortI
  cases h : bestL fewB ((levelI W.length []).filter (sortsB W)) with
  | none =>
    exfalso
    match he : (levelI W.length []).filter (sortsB W) with
    | [] => exact hne he
    | x :: M => rw [he] at h; cases h
  | some b => exact best_first _ _ rfl b h
theorem sort_min {W : List Span} (h5 : W.length ≤ 5) (hne : (levelI W.length []).filter (sortsB W) ≠ []) : sortI W ∈ bfsI W.length ∧ sortsB W (sortI W) = true ∧ ∀ l ∈ levelI W.length [], sortsB W l = true → runsI (sortI W) ≤ runsI l := by
  obtain ⟨ps, bs, e, h1, h2⟩ := sort_best hne
  have hm : sortI W ∈ (levelI W.length []).filter (sortsB W) := by rw [e]; simp
  obtain ⟨m1, m2⟩ := List.mem_filter.1 hm
  refine ⟨by rw [bfs_level]; exact m1, m2, fun l hl hs => ?_⟩
  have hlf : l ∈ (levelI W.length []).filter (sortsB W) := List.mem_filter.2 ⟨hl, hs⟩
  rw [e] at hlf
  rcases List.mem_append.1 hlf with h | h
  · exact Int.le_of_lt (h1 l h)
  · rcases List.mem_cons.1 h with h | h
    · rw [h]; exact Int.le_refl _
    · exact h2 l h
theorem sort_perm_le {W V : List Span} (hp : W.Perm V) (h5 : W.length ≤ 5) (hW : (levelI W.length []).filter (sortsB W) ≠ []) (hV : (levelI V.length []).filter (sortsB V) ≠ []) : runsI (sortI V) ≤ runsI (sortI W) := by
  have hl := hp.length_eq
  obtain ⟨a1, a2, a3⟩ := sort_min h5 hW
  obtain ⟨b1, b2, b3⟩ := sort_min (W := V) (by omega) hV
  obtain ⟨c1, c2⟩ := (bfs_bd h5).2 _ a1
  obtain ⟨P, p1, p2⟩ := sorts_stab c1 (fun x hx => (c2 x hx).1) a2
  have p3 : stabs V P := ⟨p1.1, fun s hs => p1.2 s (hp.mem_iff.2 hs)⟩
  obtain ⟨l, l1, l2, l3⟩ := stab_sorts p3
  have := b3 l l1 l2
  omega
theorem sort_perm {W V : List Span} (hp : W.Perm V) (h5 : W.length ≤ 5) (hW : (levelI W.length []).filter (sortsB W) ≠ []) (hV : (levelI V.length []).filter (sortsB V) ≠ []) : runsI (sortI V) = runsI (sortI W) := by
  have hl := hp.length_eq
  have h1 := sort_perm_le hp h5 hW hV
  have h2 := sort_perm_le hp.symm (by omega) hV hW
  omega
theorem sort_some' {d : Drum} (hP : DrumP d) (he : eachB (winP d) = true) : (levelI (winP d).length []).filter (sortsB (winP d)) ≠ [] := by
  have h := sort_some hP he
  have h5 := hP.b1
  rw [winR_len] at h
  rw [winP_len, ← bfs_level]
  intro e
  apply h
  rw [← e]
  refine List.filter_congr fun l hl => ?_
  rw [sortsR_eq fun x hx => (((bfs_bd h5).2 l hl).2 x hx).1]
  exact sortsB_same d l
theorem wb_winR (d : Drum) (B : List Batch) : winR (withB d B) = B.map (winR1 d) := by
  unfold winR
  refine List.map_congr_left fun b _ => ?_
  unfold winR1 smoothI thinI
  simp only [wb_bounds]; rfl
theorem each_perm {d : Drum} {B : List Batch} (hP : DrumP d) (hx : DrumP (withB d B)) (hb : ∀ b, b ∈ B ↔ b ∈ d.batches) : eachB (winP (withB d B)) = eachB (winP d) := by
  rw [← whole_same hP, ← whole_same hx, wb_winR, Bool.eq_iff_iff]
  simp only [winR, List.all_eq_true, List.mem_map]
  exact ⟨fun h s ⟨b, hb', e⟩ => h s ⟨b, (hb b).2 hb', e⟩, fun h s ⟨b, hb', e⟩ => h s ⟨b, (hb b).1 hb', e⟩⟩
end Go.Abs
namespace Go.Abs
open Go.Proofs
set_option linter.unusedVariables false
set_option linter.unusedSimpArgs false
set_option maxRecDepth 100000
section
variable {P : Program} {nt : Nat} {s : ASt} {o : Oper} {ops : Array Oper}
theorem D_remC {t t' : TypeId} {x y : Operand} {k : IntKind} {m n r : Int} (hg : guardT ops s o = true) (ho : o.op = .binOp .rem t x y t') (hd : dstB nt o.dst = true) (hx : s.ev x = some (.pv (.int k m))) (hy : s.ev y = some (.pv (.int k n))) (hn : ¬ n = 0) (hr : m.tmod n = r) :
    StepOK P nt ops o s ⟨some (.pv (.int k r)), false, [], []⟩ (s.putO o.dst (some (.pv (.int k r)))) :=
  StepOK.mkP hg fun s1 h1 _ => hr ▸ op_rem ho hd (by rw [ev_agree h1 (by simp [ho, Op.operands])]; exact hx) (by rw [ev_agree h1 (by simp [ho, Op.operands])]; exact hy) hn
end
def b0 : Batch := ⟨0, 0, 0, 0, 0, 0⟩
def turnL (B : List Batch) (r k : Nat) : List Batch := (List.range k).map fun i => B.getD ((i + r) % B.length) b0
theorem turn_succ (B : List Batch) (r k : Nat) : turnL B r (k + 1) = turnL B r k ++ [B.getD ((k + r) % B.length) b0] := by
  unfold turnL
  rw [List.range_succ, List.map_append]; rfl
theorem turn_perm {B : List Batch} {r : Nat} (hr : r < B.length) : (turnL B r B.length).Perm B := by
  have e : turnL B r B.length = B.drop r ++ B.take r := by
    apply List.ext_getElem
    · simp [turnL]; omega
    · intro i h1 h2
      have hi : i < B.length := by simpa [turnL] using h1
      simp only [turnL, List.getElem_map, List.getElem_range]
      rw [List.getD_eq_getElem?_getD]
      by_cases h : i < B.length - r
      · have hm : (i + r) % B.length = i + r := Nat.mod_eq_of_lt (by omega)
        rw [hm, List.getElem_append_left (by rw [List.length_drop]; exact h), List.getElem_drop]
        have e3 : i + r = r + i := by omega
        simp only [e3]
        rw [List.getElem?_eq_getElem (by omega)]; rfl
      · have hm : (i + r) % B.length = i + r - B.length := by
          rw [Nat.mod_eq_sub_mod (by omega), Nat.mod_eq_of_lt (by omega)]
        rw [hm, List.getElem_append_right (by rw [List.length_drop]; omega), List.getElem_take]
        have e2 : i - (B.drop r).length = i + r - B.length := by rw [List.length_drop]; omega
        simp only [e2]
        simp [show i + r - B.length < B.length by omega]
  rw [e]
  exact (List.perm_append_comm).trans (by rw [List.take_append_drop])
theorem turn_same {d : Drum} (hd : drumOK d) (hP : DrumP d) {B : List Batch} (hp : B.Perm d.batches) :
    ∃ (w : Span) (e : Int) (N N' : List Int) (e2 : Int) (S S' : List Int) (n e3 : Int), ACalls Tryz.prog 55 [eDrum d] (fun r => r = .tup [eS w, vi e]) ∧ ACalls Tryz.prog 55 [eDrum (withB d B)] (fun r => r = .tup [eS w, vi e]) ∧
      ACalls Tryz.prog 56 [eDrum d] (fun r => r = .tup [eInts N, vi e2]) ∧ ACalls Tryz.prog 56 [eDrum (withB d B)] (fun r => r = .tup [eInts N', vi e2]) ∧ N.length = N'.length ∧ N.length ≤ 5 ∧
      ACalls Tryz.prog 45 [eDrum d] (fun r => r = .tup [eInts S, vi n, vi e3]) ∧ ACalls Tryz.prog 45 [eDrum (withB d B)] (fun r => r = .tup [eInts S', vi n, vi e3]) := by
  have q := drumP_of.2 hP
  have hb0 := hP.b0
  have hb1 := hP.b1
  have hl := hp.length_eq
  have hmem : ∀ b, b ∈ B ↔ b ∈ d.batches := fun b => hp.mem_iff
  have hx := wb_P d B hP (by omega) (by omega) (fun b hb => (hmem b).1 hb)
  have hdx := wb_ok d B hd (by omega)
  have hes := err_same hP hx
  have hwp : (winP (withB d B)).Perm (winP d) := by rw [wb_win]; exact hp.map _
  rcases err_cases q with ⟨hz, he⟩ | ⟨hne, he⟩
  · have k1 := f55e hd (by rw [he]; decide)
    have k2 := f55e hdx (by rw [hes, he]; decide)
    have k3 := f56e hd (by rw [he]; decide)
    have k4 := f56e hdx (by rw [hes, he]; decide)
    have k5 := f45e hd (by rw [he]; decide)
    have k6 := f45e hdx (by rw [hes, he]; decide)
    rw [he] at k1 k3 k5
    rw [hes, he] at k2 k4 k6
    exact ⟨_, _, _, _, _, _, _, _, _, k1, k2, k3, k4, rfl, by simp, k5, k6⟩
  · have hex : errE (withB d B) true = 0 := by rw [hes]; exact he
    have hspan := span_ext (s := allW (withB d B)) (t := allW d) fun n => by
      rw [wb_all_iff, all_iff]
      exact and_congr_right fun _ => ⟨fun h b hb => h b ((hmem b).2 hb), fun h b hb => h b ((hmem b).1 hb)⟩
    have W : ∃ (w : Span) (e : Int), ACalls Tryz.prog 55 [eDrum d] (fun r => r = .tup [eS w, vi e]) ∧ ACalls Tryz.prog 55 [eDrum (withB d B)] (fun r => r = .tup [eS w, vi e]) := by
      cases ho : openS (allW d) with
      | false => exact ⟨_, _, f55n hd he ho, f55n hdx hex (by rw [hspan.1]; exact ho)⟩
      | true =>
        have hox : openS (allW (withB d B)) = true := by rw [hspan.1]; exact ho
        have k := f55y hdx hex hox
        rw [hspan.2 hox] at k
        exact ⟨_, _, f55y hd he ho, k⟩
    obtain ⟨w, e, k1, k2⟩ := W
    have hnl := named_perm hwp (by rw [winP_len]; show 1 ≤ B.length; omega) (by rw [winP_len]; show B.length ≤ 5; omega)
    have hnn := named_len (winP d)
    rw [winP_len] at hnn
    have S : ∃ (S S' : List Int) (n e3 : Int), ACalls Tryz.prog 45 [eDrum d] (fun r => r = .tup [eInts S, vi n, vi e3]) ∧ ACalls Tryz.prog 45 [eDrum (withB d B)] (fun r => r = .tup [eInts S', vi n, vi e3]) := by
      have hee := each_perm hP hx hmem
      cases hw : eachB (winP d) with
      | false => exact ⟨_, _, _, _, f45n hd he hw, f45n hdx hex (by rw [hee]; exact hw)⟩
      | true =>
        have hwx : eachB (winP (withB d B)) = true := by rw [hee]; exact hw
        have k := f45y hdx hex hwx
        rw [sort_perm hwp.symm (by rw [winP_len]; exact hb1) (sort_some' hP hw) (sort_some' hx hwx)] at k
        exact ⟨_, _, _, _, f45y hd he hw, k⟩
    obtain ⟨S, S', n, e3, k5, k6⟩ := S
    exact ⟨w, e, _, _, _, S, S', n, e3, k1, k2, f56y hd he, f56y hdx hex, hnl.symm, by omega, k5, k6⟩
set_option maxHeartbeats 16000000 in
theorem f13 (d : Drum) (by_ : Int) : ACalls Tryz.prog 13 [eDrum d, vi by_] (fun r => r = .pv (.bool true)) := by
  have k23 := f23' d
  cases hs : shortB d with
  | false =>
    rw [hs] at k23
    refine ACalls.of_body hT Tryz.func13 rfl (by kernel_rfl) rfl ?_
    (repeat' (first | refine stq ?_ | (refine AL_do2 rfl ?_; first | refine ⟨_, op_call1 rfl rfl rfl rfl (k23), nrmA rfl ?_⟩ | refine ⟨_, op_call1 rfl rfl rfl rfl (f24), nrmA rfl ?_⟩) | (with_reducible refine AL_id ?_); (fail_if_success (refine AL_glit rfl rfl rfl (by first | exact .inl (by with_reducible rfl) | exact .inr (by with_reducible rfl)) ?_)); first | refine AL_gdec rfl rfl rfl (fun hg => ?_) (fun hg => ?_) | refine AL_gnot rfl rfl rfl (fun hg => ?_) (fun hg => ?_) | refine AL_gcases rfl rfl rfl (fun hg => ?_) (fun hg => ?_)))
    all_goals (try (exfalso; simp at hg; done))
    exact ⟨_, _, rfl, rfl, rfl⟩
  | true =>
    rw [hs] at k23
    have hd := short_ok hs
    have k39 := f39 d hd
    cases q : drumB d with
    | false =>
      rw [q] at k39
      refine ACalls.of_body hT Tryz.func13 rfl (by kernel_rfl) rfl ?_
      (repeat' (first | refine stq ?_ | (refine AL_do2 rfl ?_; first | refine ⟨_, op_call1 rfl rfl rfl rfl (k23), nrmA rfl ?_⟩ | refine ⟨_, op_call1 rfl rfl rfl rfl (f24), nrmA rfl ?_⟩ | refine ⟨_, op_call1 rfl rfl rfl rfl (k39), nrmA rfl ?_⟩) | ((first | (with_reducible refine AL_id ?_); (fail_if_success (refine AL_glit rfl rfl rfl (by first | exact .inl (by with_reducible rfl) | exact .inr (by with_reducible rfl)) ?_)); first | refine AL_gdec rfl rfl rfl (fun hg => ?_) (fun hg => ?_) | refine AL_gnot rfl rfl rfl (fun hg => ?_) (fun hg => ?_) | refine AL_gcases rfl rfl rfl (fun hg => ?_) (fun hg => ?_)) <;> (try (exfalso; omega))) | refine AW_if rfl (fun hc => absurd hc (by omega)) (fun _ => ?_) | refine AW_if rfl (fun _ => ?_) (fun hc => absurd (by omega) hc)))
      all_goals exact ⟨_, _, rfl, rfl, rfl⟩
    | true =>
      rw [q] at k39
      have hP := drumP_of.1 q
      have hb0 := hP.b0
      have hb1 := hP.b1
      by_cases hby : 0 ≤ by_
      · obtain ⟨r, hr, hrn⟩ : ∃ r : Nat, by_.tmod d.batches.length = r ∧ r < d.batches.length := by
          refine ⟨(by_.tmod d.batches.length).toNat, ?_, ?_⟩
          · have := Int.tmod_nonneg (d.batches.length : Int) hby
            omega
          · have := Int.tmod_lt_of_pos by_ (show (0 : Int) < d.batches.length by omega)
            have := Int.tmod_nonneg (d.batches.length : Int) hby
            omega
        refine ACalls.of_body hT Tryz.func13 rfl (by kernel_rfl) rfl ?_
        (repeat' (first | refine stq ?_ | (refine AL_do2 rfl ?_; first | refine ⟨_, op_call1 rfl rfl rfl rfl (k23), nrmA rfl ?_⟩ | refine ⟨_, op_call1 rfl rfl rfl rfl (f24), nrmA rfl ?_⟩ | refine ⟨_, op_call1 rfl rfl rfl rfl (k39), nrmA rfl ?_⟩) | ((first | (with_reducible refine AL_id ?_); (fail_if_success (refine AL_glit rfl rfl rfl (by first | exact .inl (by with_reducible rfl) | exact .inr (by with_reducible rfl)) ?_)); first | refine AL_gdec rfl rfl rfl (fun hg => ?_) (fun hg => ?_) | refine AL_gnot rfl rfl rfl (fun hg => ?_) (fun hg => ?_) | refine AL_gcases rfl rfl rfl (fun hg => ?_) (fun hg => ?_)) <;> (try (exfalso; omega))) | refine AW_if rfl (fun hc => absurd hc (by omega)) (fun _ => ?_) | refine AW_if rfl (fun _ => ?_) (fun hc => absurd (by omega) hc)))
        all_goals (try (exfalso; omega))
        refine AW_nilBox 1 5 77 6 rfl rfl ?_
        refine AW_loopC (fun k : Nat => k ≤ d.batches.length) (fun k => mkSt [(1, .pv (vi by_)), (2, .box 0 0), (5, .box 1 0), (6, .pv (vi d.batches.length)), (7, .pv (vi k))]
          [(0, .box ((eDrumC d).map FV.pv)), (1, .box [.pv (.sl (d.acids.map eAcid)), .pv (vi d.known), .pv (vi d.hours), .pv (eInts d.adds), .pv (.sl (d.strips.map eStrip)), .arr 2]), (2, .arr 77 6 ((turnL d.batches r k).map eBatch))] 3) (fun k => d.batches.length - k) 0 (Nat.zero_le _) ?_ ?_
        · (refine Le.mk ?_ ?_; all_goals (repeat' (first | exact trivial | refine sle ?_ | refine ⟨?_, rfl, ?_⟩ | refine ⟨?_, by decide, rfl, ?_⟩ | fail)))
        · intro k hk
          (repeat (refine stq ?_))
          refine AW_if rfl (fun hc => ?_) (fun hc => ?_)
          · have hk' : k < d.batches.length := by omega
            obtain ⟨j, hj, hjn, hjm⟩ : ∃ j : Nat, ((k : Int) + r).tmod d.batches.length = j ∧ j < d.batches.length ∧ (k + r) % d.batches.length = j := ⟨(k + r) % d.batches.length, by rw [← Int.natCast_add, ← Int.ofNat_tmod], Nat.mod_lt _ (by omega), rfl⟩
            obtain ⟨b, hb⟩ : ∃ b, d.batches[j]? = some b := ⟨d.batches[j], by simp [hjn]⟩
            have e1 := get_map eBatch hb
            have hs := turn_succ d.batches r k
            rw [hjm, List.getD_eq_getElem?_getD, hb] at hs
            have hs : turnL d.batches r (k + 1) = turnL d.batches r k ++ [b] := hs
            have hL : (turnL d.batches r k).length ≤ 5 := by simp [turnL]; omega
            generalize turnL d.batches r k = ts at *
            (repeat (refine stq ?_))
            (repeat (refine sdq ?_))
            refine DG_next (D_remC (r := (r : Int)) rfl rfl rfl rfl rfl (by omega) hr) ?_
            (repeat (refine sdq ?_))
            refine DG_next (D_remC (r := (j : Int)) rfl rfl rfl rfl rfl (by omega) hj) ?_
            (repeat (refine sdq ?_))
            refine DG_end hM (by kernel_rfl) ?_
            (repeat (refine stq ?_))
            refine ⟨k + 1, hk', by omega, ?_⟩
            rw [hs]
            (refine Le.mkR [(0, 0), (1, 1), (2, 3)] ?_ ?_ rfl; all_goals (repeat' (first | exact trivial | refine sle ?_ | refine ⟨?_, rfl, ?_⟩ | refine ⟨?_, by decide, rfl, ?_⟩ | fail)))
            rw [List.map_append]; rfl
          · have hk' : k = d.batches.length := by omega
            subst hk'
            have hp := turn_perm hrn
            obtain ⟨w, e, N, N', e2, S, S', n, e3, k1, k2, k3, k4, hN, hN5, k5, k6⟩ := turn_same hd hP hp
            rw [wb_drum] at k2 k4 k6
            refine AW_arrBox (b := 1) 5 rfl rfl rfl rfl ?_
            (repeat' (first | refine AL_skip rfl rfl ?_ | refine stq ?_ | (refine AL_do2 rfl ?_; first | refine ⟨_, op_call1 rfl rfl rfl rfl (k1), nrmA rfl ?_⟩ | refine ⟨_, op_call1 rfl rfl rfl rfl (k2), nrmA rfl ?_⟩ | refine ⟨_, op_call1 rfl rfl rfl rfl (k3), nrmA rfl ?_⟩ | refine ⟨_, op_call1 rfl rfl rfl rfl (k4), nrmA rfl ?_⟩ | refine ⟨_, op_call1 rfl rfl rfl rfl (k5), nrmA rfl ?_⟩ | refine ⟨_, op_call1 rfl rfl rfl rfl (k6), nrmA rfl ?_⟩ | refine ⟨_, op_call1 rfl rfl rfl rfl (f24), nrmA rfl ?_⟩ | refine ⟨_, op_eqlC true (by simp) (ms := [w.low, w.high]) (ns := [w.low, w.high]) aggEq67 rfl rfl rfl rfl rfl rfl, ?_⟩) | ((first | (with_reducible refine AL_id ?_); (fail_if_success (refine AL_glit rfl rfl rfl (by first | exact .inl (by with_reducible rfl) | exact .inr (by with_reducible rfl)) ?_)); first | refine AL_gdec rfl rfl rfl (fun hg => ?_) (fun hg => ?_) | refine AL_gnot rfl rfl rfl (fun hg => ?_) (fun hg => ?_) | refine AL_gcases rfl rfl rfl (fun hg => ?_) (fun hg => ?_)) <;> (try (exfalso; omega))) | refine AW_if rfl (fun hc => absurd hc (by omega)) (fun _ => ?_) | refine AW_if rfl (fun _ => ?_) (fun hc => absurd (by omega) hc)))
            all_goals first | exact ⟨_, _, rfl, rfl, rfl⟩ | (exfalso; omega)
      · refine ACalls.of_body hT Tryz.func13 rfl (by kernel_rfl) rfl ?_
        (repeat' (first | refine stq ?_ | (refine AL_do2 rfl ?_; first | refine ⟨_, op_call1 rfl rfl rfl rfl (k23), nrmA rfl ?_⟩ | refine ⟨_, op_call1 rfl rfl rfl rfl (f24), nrmA rfl ?_⟩ | refine ⟨_, op_call1 rfl rfl rfl rfl (k39), nrmA rfl ?_⟩) | ((first | (with_reducible refine AL_id ?_); (fail_if_success (refine AL_glit rfl rfl rfl (by first | exact .inl (by with_reducible rfl) | exact .inr (by with_reducible rfl)) ?_)); first | refine AL_gdec rfl rfl rfl (fun hg => ?_) (fun hg => ?_) | refine AL_gnot rfl rfl rfl (fun hg => ?_) (fun hg => ?_) | refine AL_gcases rfl rfl rfl (fun hg => ?_) (fun hg => ?_)) <;> (try (exfalso; omega))) | refine AW_if rfl (fun hc => absurd hc (by omega)) (fun _ => ?_) | refine AW_if rfl (fun _ => ?_) (fun hc => absurd (by omega) hc)))
        all_goals first | exact ⟨_, _, rfl, rfl, rfl⟩ | (exfalso; omega)
end Go.Abs
