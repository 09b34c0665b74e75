/- known(): the document's examples. -/
import Derived.Test.YtkmclnjmabljdaaGreatDoorNeB
set_option linter.unusedVariables false
set_option linter.unusedSimpArgs false
namespace Go.Abs
open Go.Proofs
set_option linter.unusedVariables false
set_option linter.unusedSimpArgs false
set_option maxRecDepth 100000

theorem k29 : ACalls Tryz.prog 29 [eHouse cH, eBaths cA] (fun r => r = .tup [eSpans [⟨8, 15⟩, ⟨6, 6⟩], vi 0]) := by
  have h := f29 cH cA ⟨by decide, by decide⟩ (by decide)
  have e : knownI cH cA = ([⟨8, 15⟩, ⟨6, 6⟩], 0) := by decide +kernel
  rw [e] at h; exact h
theorem k66 : ACalls Tryz.prog 66 [eHouse cH, eLamp cGas, eBaths cA, eBaths cB] (fun r => r = .tup [eS ⟨-15, -12⟩, vi 0]) := by
  have h := f66 cH cGas cA cB ⟨by decide, by decide⟩ (by decide) (by decide) (by decide)
  have e : apartE cH cGas cA cB = (⟨-15, -12⟩, 0) := by decide +kernel
  rw [e] at h; exact h
theorem k35 : ACalls Tryz.prog 35 [eHouse cH, eLamps [cDay, cGas], eBaths cA, eBaths cB, eS ⟨4, 4⟩] (fun r => r = .tup [eInts [2, 1], vi 0]) := by
  have h := f35 cH [cDay, cGas] cA cB ⟨4, 4⟩ ⟨by decide, by decide⟩ ⟨by decide, by decide⟩ (by decide) (by decide)
  have e : wordsE cH [cDay, cGas] cA cB ⟨4, 4⟩ = ([2, 1], 0) := by decide +kernel
  rw [e] at h; exact h
theorem k40 : ACalls Tryz.prog 40 [eHouse cH, eLamp cDay, eBaths cB, vi 1, vi 2, eS ⟨18, 30⟩] (fun r => r = .tup [eS ⟨2, 3⟩, vi 0]) := by
  have h := f40 cH cDay cB 1 2 ⟨18, 30⟩ ⟨by decide, by decide⟩ (by decide) (by decide)
  have e : ripeI cH cDay cB 1 2 ⟨18, 30⟩ = (⟨2, 3⟩, 0) := by decide +kernel
  rw [e] at h; exact h
theorem k48 : ACalls Tryz.prog 48 [eHouse cH, eCoat cC, eStocks cL] (fun r => r = .tup [vi 2, vi 0]) := by
  have h := f48 cH cC cL ⟨by decide, by decide⟩ ⟨by decide, by decide, by decide⟩ ⟨by decide, by decide⟩
  have e : coatE cH cC cL = (2, 0) := by decide +kernel
  rw [e] at h; exact h
theorem k53 : ACalls Tryz.prog 53 [eSorter cS, eInts [10, 14, 17], vi 2] (fun r => r = .tup [eInts [0, 1, 1], vi 0]) := by
  have h := f53 cS [10, 14, 17] 2 (by decide) (by decide)
  have e : layE cS [10, 14, 17] 2 = ([0, 1, 1], 0) := by decide +kernel
  rw [e] at h; exact h
theorem k54 : ACalls Tryz.prog 54 [eSorter cS, eInts [0, 0, 1]] (fun r => r = .tup [eSpans cS.looks, eS ⟨2, 3⟩, vi 0]) := by
  have h := f54 cS [0, 0, 1] (by decide) (by decide)
  have e : provesE cS [0, 0, 1] = (cS.looks, ⟨2, 3⟩, 0) := by decide +kernel
  rw [e] at h; exact h
theorem k58 : ACalls Tryz.prog 58 [eSorter cS, vi 1, vi 2] (fun r => r = .tup [vi 2, vi 0]) := by
  have h := f58 cS 1 2 (by decide)
  have e : togetherE cS 1 2 = (2, 0) := by decide +kernel
  rw [e] at h; exact h
def exText : ByteArray := "house 2 0\ndye 40 2 3 5 5 8 10\ndye 20 1 1 2 2 4 4\nend 056\n".toUTF8
theorem numOK {x : Int} (h0 : 0 ≤ x) (h : x < 100) : ACalls Tryz.prog 201 [vi x] (fun r => r = .pv (.str (itoaB x))) ∧ (itoaB x).size ≤ 20 := by
  obtain ⟨n, rfl⟩ := Int.eq_ofNat_of_zero_le h0
  have hn : n < 100 := by omega
  exact ⟨f201 n hn, by have := itoa_size hn; omega⟩
/-- The digits without a recursion that does not reckon. -/
def dig (n : Nat) : List UInt8 := if n < 10 then [UInt8.ofNat (48 + n)] else [UInt8.ofNat (48 + n / 10), UInt8.ofNat (48 + n % 10)]
theorem dig_eq {n : Nat} (h : n < 100) : Lib.decDigits n = dig n := by
  unfold Lib.decDigits dig
  split
  · rfl
  · unfold Lib.decDigits
    rw [dif_pos (by omega)]; rfl
def itoaD (n : Int) : ByteArray := bytesOf (dig n.toNat)
theorem itoaD_eq {n : Int} (h : n < 100) : itoaB n = itoaD n := by unfold itoaB itoaD; rw [dig_eq (by omega)]
def lineD (nm : ByteArray) (nums : List Int) : ByteArray := nums.foldl (fun acc x => acc ++ (spB ++ itoaD x)) nm
theorem lineD_eq (nm : ByteArray) : ∀ {nums : List Int}, (∀ x ∈ nums, x < 100) → lineB nm nums = lineD nm nums := by
  intro nums
  induction nums using snocInd with
  | h0 => intro _; rfl
  | h1 l x ih =>
    intro h
    rw [lineB_snoc, ih fun y hy => h y (by simp [hy]), itoaD_eq (h x (by simp))]
    simp [lineD]
theorem text_ex : textB cH [] = exText := by
  have e1 : linesB cH [] = [lineD nmTop [2, 0], lineD nmDye [40, 2, 3, 5, 5, 8, 10], lineD nmDye [20, 1, 1, 2, 2, 4, 4]] := by
    show [lineB nmTop [2, 0], lineB nmDye [40, 2, 3, 5, 5, 8, 10], lineB nmDye [20, 1, 1, 2, 2, 4, 4]] = _
    rw [lineD_eq nmTop (by decide), lineD_eq nmDye (nums := [40, 2, 3, 5, 5, 8, 10]) (by decide), lineD_eq nmDye (nums := [20, 1, 1, 2, 2, 4, 4]) (by decide)]
  unfold textB
  rw [e1]
  have e2 : checkI [lineD nmTop [2, 0], lineD nmDye [40, 2, 3, 5, 5, 8, 10], lineD nmDye [20, 1, 1, 2, 2, 4, 4]] % 113 = 56 := by decide +kernel
  unfold textOf
  rw [e2, itoaD_eq (by decide), itoaD_eq (by decide), itoaD_eq (by decide)]
  decide +kernel
theorem k90 : ACalls Tryz.prog 90 [eHouse cH, .sl []] (fun r => r = .tup [.str exText, vi 0]) := by
  have h := f90 cH [] ⟨by decide, by decide⟩ ⟨by decide, by simp⟩ fun _ _ ns hns x hx => by
    have h1 : ∀ ns ∈ rowsNums cH [], ∀ x ∈ ns, 0 ≤ x ∧ x < 100 := by decide +kernel
    obtain ⟨g1, g2⟩ := h1 ns hns x hx
    exact numOK g1 g2
  have e : printE cH [] = (textB cH [], 0) := by
    have : (isHouseB cH && areStocksB cH [] 0) = true := by decide +kernel
    unfold printE; rw [if_pos this]
  rw [e, text_ex] at h
  exact h
theorem same_of {n : Nat} {a b : PV} {p : Prop} [Decidable p] (h : ACalls Tryz.prog n [a, b] (fun r => r = .pv (.bool (decide p)))) (hp : p) : ACalls Tryz.prog n [a, b] (fun r => r = .pv (.bool true)) := by
  rw [decide_eq_true hp] at h; exact h
set_option maxHeartbeats 4000000 in
theorem f28 : ACalls Tryz.prog 28 [] (fun r => r = .pv (.bool true)) := by
  refine ACalls.of_body hT Tryz.func28 rfl (by kernel_rfl) rfl ?_
  (repeat' (first | (refine AL_do2 rfl ⟨_, op_buildSlice_p hT rfl rfl rfl rfl rfl rfl rfl rfl rfl, ?_⟩) | refine stp ?_ | (refine AL_do2 rfl ?_; first | refine ⟨_, op_call1 rfl rfl rfl rfl (f97), ?_⟩ | refine ⟨_, op_call1 rfl rfl rfl rfl (f98), ?_⟩ | refine ⟨_, op_call1 rfl rfl rfl rfl (f99), ?_⟩ | refine ⟨_, op_call1 rfl rfl rfl rfl (f100), ?_⟩ | refine ⟨_, op_call1 rfl rfl rfl rfl (f101), ?_⟩ | refine ⟨_, op_call1 rfl rfl rfl rfl (f102), ?_⟩ | refine ⟨_, op_call1 rfl rfl rfl rfl (f103), ?_⟩ | refine ⟨_, op_call1 rfl rfl rfl rfl (f104), ?_⟩ | refine ⟨_, op_call1 rfl rfl rfl rfl (f60 4), ?_⟩ | refine ⟨_, op_call1 rfl rfl rfl rfl (f61 18 30), ?_⟩ | refine ⟨_, op_call1 rfl rfl rfl rfl (k29), ?_⟩ | refine ⟨_, op_call1 rfl rfl rfl rfl (k66), ?_⟩ | refine ⟨_, op_call1 rfl rfl rfl rfl (k35), ?_⟩ | refine ⟨_, op_call1 rfl rfl rfl rfl (k40), ?_⟩ | refine ⟨_, op_call1 rfl rfl rfl rfl (k48), ?_⟩ | refine ⟨_, op_call1 rfl rfl rfl rfl (k53), ?_⟩ | refine ⟨_, op_call1 rfl rfl rfl rfl (k54), ?_⟩ | refine ⟨_, op_call1 rfl rfl rfl rfl (k58), ?_⟩ | refine ⟨_, op_call1 rfl rfl rfl rfl (k90), ?_⟩) | refine AL_gdec rfl rfl rfl (fun hg => ?_) (fun hg => ?_) | refine AL_gnot rfl rfl rfl (fun hg => ?_) (fun hg => ?_) | refine AL_gcases rfl rfl rfl (fun hg => ?_) (fun hg => ?_)))
  have s1 := same_of (f32 [⟨8, 15⟩, ⟨6, 6⟩] [⟨8, 15⟩, ⟨6, 6⟩] (by decide)) rfl
  have s2 := same_of (f38 [2, 1] [2, 1] (by decide)) rfl
  have s3 := same_of (f59 [0, 1, 1] [0, 1, 1] (by decide)) rfl
  have s4 := same_of (f32 cS.looks cS.looks (by decide)) rfl
  (repeat (first | refine DG_next (D_neqS (ms := [-15, -12]) (ns := [-15, -12]) aggEq37 rfl rfl rfl rfl rfl rfl rfl) ?_ | refine DG_next (D_neqS (ms := [2, 3]) (ns := [2, 3]) aggEq37 rfl rfl rfl rfl rfl rfl rfl) ?_ | refine sdr ?_ | refine DG_next (D_call rfl rfl rfl rfl rfl (f61 8 15)) ?_ | refine DG_next (D_call rfl rfl rfl rfl rfl (f60 6)) ?_ | refine DG_next (D_call rfl rfl rfl rfl rfl (s1)) ?_ | refine DG_next (D_call rfl rfl rfl rfl rfl (f61 (-15) (-12))) ?_ | refine DG_next (D_call rfl rfl rfl rfl rfl (s2)) ?_ | refine DG_next (D_call rfl rfl rfl rfl rfl (f61 2 3)) ?_))
  refine DG_end hM (by kernel_rfl) ?_
  (repeat (refine stp ?_))
  (repeat (first | refine DG_next (D_eqlS (ms := [2, 3]) (ns := [2, 3]) aggEq37 rfl rfl rfl rfl rfl rfl rfl) ?_ | refine DG_next (D_streq rfl rfl rfl rfl rfl) ?_ | refine sdr ?_ | refine DG_next (D_call rfl rfl rfl rfl rfl (f104)) ?_ | refine DG_next (D_call rfl rfl rfl rfl rfl (s3)) ?_ | refine DG_next (D_call rfl rfl rfl rfl rfl (s4)) ?_ | refine DG_next (D_call rfl rfl rfl rfl rfl (f61 2 3)) ?_))
  refine DG_end hM (by kernel_rfl) ?_
  (repeat (refine stp ?_))
  refine ⟨_, _, rfl, rfl, ?_⟩
  show RV.pv _ = RV.pv _
  kernel_rfl
end Go.Abs
