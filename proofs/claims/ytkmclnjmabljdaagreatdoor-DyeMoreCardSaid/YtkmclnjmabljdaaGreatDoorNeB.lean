/- The examples of the document; equality of lists. -/
import Derived.Test.YtkmclnjmabljdaaGreatDoorNdJ
import Derived.Test.YtkmclnjmabljdaaGreatDoorNcG
import Derived.Test.YtkmclnjmabljdaaGreatDoorNeA
import Derived.Test.YtkmclnjmabljdaaGreatDoorNdH
set_option linter.unusedVariables false
set_option linter.unusedSimpArgs false
namespace Go.Abs
open Go.Proofs
set_option linter.unusedVariables false
set_option linter.unusedSimpArgs false
set_option maxRecDepth 100000

theorem f61 (a b : Int) : ACalls Tryz.prog 61 [vi a, vi b] (fun r => r = .pv (eS ⟨a, b⟩)) := by
  refine ACalls.of_body hT Tryz.func61 rfl (by kernel_rfl) rfl ?_
  (repeat (refine stp ?_))
  exact ⟨_, _, rfl, rfl, rfl⟩
theorem f60 (n : Int) : ACalls Tryz.prog 60 [vi n] (fun r => r = .pv (eS ⟨n, n⟩)) := by
  refine ACalls.of_body hT Tryz.func60 rfl (by kernel_rfl) rfl ?_
  (repeat' (first | refine stp ?_ | (refine AL_do2 rfl ?_; first | refine ⟨_, op_call1 rfl rfl rfl rfl (f61 n n), ?_⟩) | refine AL_gdec rfl rfl rfl (fun hg => ?_) (fun hg => ?_) | refine AL_gnot rfl rfl rfl (fun hg => ?_) (fun hg => ?_) | refine AL_gcases rfl rfl rfl (fun hg => ?_) (fun hg => ?_)))
  exact ⟨_, _, rfl, rfl, rfl⟩
def cH : List Dye := [⟨[⟨2, 3⟩, ⟨5, 5⟩, ⟨8, 10⟩], 40⟩, ⟨[⟨1, 1⟩, ⟨2, 2⟩, ⟨4, 4⟩], 20⟩]
def cA : List Bath := [⟨0, 0, ⟨4, 5⟩⟩, ⟨1, 1, ⟨3, 3⟩⟩]
def cB : List Bath := [⟨0, 0, ⟨5, 5⟩⟩]
def cDay : List Int := [1, 1]
def cGas : List Int := [1, -2]
def cC : Coat := ⟨[cDay, cGas], ⟨6, 6⟩, [⟨12, 14⟩, ⟨10, 12⟩], 3⟩
def cL : List Stock := [⟨cB, 2, 5⟩, ⟨[⟨0, 1, ⟨2, 2⟩⟩], 3, 9⟩, ⟨cB, 2, 4⟩]
def cS : Sorter := ⟨⟨2, 3⟩, 1, [⟨10, 12⟩, ⟨13, 14⟩, ⟨17, 17⟩]⟩
theorem f97 : ACalls Tryz.prog 97 [] (fun r => r = .pv (eHouse cH)) := by
  refine ACalls.of_body hT Tryz.func97 rfl (by kernel_rfl) rfl ?_
  (repeat' (first | (refine AL_do2 rfl ⟨_, op_buildSlice_p hT rfl rfl rfl rfl rfl rfl rfl rfl rfl, ?_⟩) | refine stp ?_ | (refine AL_do2 rfl ?_; first | refine ⟨_, op_call1 rfl rfl rfl rfl (f61 2 3), ?_⟩ | refine ⟨_, op_call1 rfl rfl rfl rfl (f60 5), ?_⟩ | refine ⟨_, op_call1 rfl rfl rfl rfl (f61 8 10), ?_⟩ | refine ⟨_, op_call1 rfl rfl rfl rfl (f60 1), ?_⟩ | refine ⟨_, op_call1 rfl rfl rfl rfl (f60 2), ?_⟩ | refine ⟨_, op_call1 rfl rfl rfl rfl (f60 4), ?_⟩) | refine AL_gdec rfl rfl rfl (fun hg => ?_) (fun hg => ?_) | refine AL_gnot rfl rfl rfl (fun hg => ?_) (fun hg => ?_) | refine AL_gcases rfl rfl rfl (fun hg => ?_) (fun hg => ?_)))
  exact ⟨_, _, rfl, rfl, rfl⟩
theorem f98 : ACalls Tryz.prog 98 [] (fun r => r = .pv (eBaths cA)) := by
  refine ACalls.of_body hT Tryz.func98 rfl (by kernel_rfl) rfl ?_
  (repeat' (first | (refine AL_do2 rfl ⟨_, op_buildSlice_p hT rfl rfl rfl rfl rfl rfl rfl rfl rfl, ?_⟩) | refine stp ?_ | (refine AL_do2 rfl ?_; first | refine ⟨_, op_call1 rfl rfl rfl rfl (f61 4 5), ?_⟩ | refine ⟨_, op_call1 rfl rfl rfl rfl (f60 3), ?_⟩) | refine AL_gdec rfl rfl rfl (fun hg => ?_) (fun hg => ?_) | refine AL_gnot rfl rfl rfl (fun hg => ?_) (fun hg => ?_) | refine AL_gcases rfl rfl rfl (fun hg => ?_) (fun hg => ?_)))
  exact ⟨_, _, rfl, rfl, rfl⟩
theorem f99 : ACalls Tryz.prog 99 [] (fun r => r = .pv (eLamp cGas)) := by
  refine ACalls.of_body hT Tryz.func99 rfl (by kernel_rfl) rfl ?_
  (repeat' (first | (refine AL_do2 rfl ⟨_, op_buildSlice_p hT rfl rfl rfl rfl rfl rfl rfl rfl rfl, ?_⟩) | refine stp ?_ | refine AL_gdec rfl rfl rfl (fun hg => ?_) (fun hg => ?_) | refine AL_gnot rfl rfl rfl (fun hg => ?_) (fun hg => ?_) | refine AL_gcases rfl rfl rfl (fun hg => ?_) (fun hg => ?_)))
  exact ⟨_, _, rfl, rfl, rfl⟩
theorem f100 : ACalls Tryz.prog 100 [] (fun r => r = .pv (eBaths cB)) := by
  refine ACalls.of_body hT Tryz.func100 rfl (by kernel_rfl) rfl ?_
  (repeat' (first | (refine AL_do2 rfl ⟨_, op_buildSlice_p hT rfl rfl rfl rfl rfl rfl rfl rfl rfl, ?_⟩) | refine stp ?_ | (refine AL_do2 rfl ?_; first | refine ⟨_, op_call1 rfl rfl rfl rfl (f60 5), ?_⟩) | refine AL_gdec rfl rfl rfl (fun hg => ?_) (fun hg => ?_) | refine AL_gnot rfl rfl rfl (fun hg => ?_) (fun hg => ?_) | refine AL_gcases rfl rfl rfl (fun hg => ?_) (fun hg => ?_)))
  exact ⟨_, _, rfl, rfl, rfl⟩
theorem f101 : ACalls Tryz.prog 101 [] (fun r => r = .pv (eLamp cDay)) := by
  refine ACalls.of_body hT Tryz.func101 rfl (by kernel_rfl) rfl ?_
  (repeat' (first | (refine AL_do2 rfl ⟨_, op_buildSlice_p hT rfl rfl rfl rfl rfl rfl rfl rfl rfl, ?_⟩) | refine stp ?_ | refine AL_gdec rfl rfl rfl (fun hg => ?_) (fun hg => ?_) | refine AL_gnot rfl rfl rfl (fun hg => ?_) (fun hg => ?_) | refine AL_gcases rfl rfl rfl (fun hg => ?_) (fun hg => ?_)))
  exact ⟨_, _, rfl, rfl, rfl⟩
theorem f102 : ACalls Tryz.prog 102 [] (fun r => r = .pv (eCoat cC)) := by
  refine ACalls.of_body hT Tryz.func102 rfl (by kernel_rfl) rfl ?_
  (repeat' (first | (refine AL_do2 rfl ⟨_, op_buildSlice_p hT rfl rfl rfl rfl rfl rfl rfl rfl rfl, ?_⟩) | refine stp ?_ | (refine AL_do2 rfl ?_; first | refine ⟨_, op_call1 rfl rfl rfl rfl (f101), ?_⟩ | refine ⟨_, op_call1 rfl rfl rfl rfl (f99), ?_⟩ | refine ⟨_, op_call1 rfl rfl rfl rfl (f60 6), ?_⟩ | refine ⟨_, op_call1 rfl rfl rfl rfl (f61 12 14), ?_⟩ | refine ⟨_, op_call1 rfl rfl rfl rfl (f61 10 12), ?_⟩) | refine AL_gdec rfl rfl rfl (fun hg => ?_) (fun hg => ?_) | refine AL_gnot rfl rfl rfl (fun hg => ?_) (fun hg => ?_) | refine AL_gcases rfl rfl rfl (fun hg => ?_) (fun hg => ?_)))
  exact ⟨_, _, rfl, rfl, rfl⟩
theorem f103 : ACalls Tryz.prog 103 [] (fun r => r = .pv (eStocks cL)) := by
  refine ACalls.of_body hT Tryz.func103 rfl (by kernel_rfl) rfl ?_
  (repeat' (first | (refine AL_do2 rfl ⟨_, op_buildSlice_p hT rfl rfl rfl rfl rfl rfl rfl rfl rfl, ?_⟩) | refine stp ?_ | (refine AL_do2 rfl ?_; first | refine ⟨_, op_call1 rfl rfl rfl rfl (f100), ?_⟩ | refine ⟨_, op_call1 rfl rfl rfl rfl (f60 2), ?_⟩) | refine AL_gdec rfl rfl rfl (fun hg => ?_) (fun hg => ?_) | refine AL_gnot rfl rfl rfl (fun hg => ?_) (fun hg => ?_) | refine AL_gcases rfl rfl rfl (fun hg => ?_) (fun hg => ?_)))
  exact ⟨_, _, rfl, rfl, rfl⟩
theorem f104 : ACalls Tryz.prog 104 [] (fun r => r = .pv (eSorter cS)) := by
  refine ACalls.of_body hT Tryz.func104 rfl (by kernel_rfl) rfl ?_
  (repeat' (first | (refine AL_do2 rfl ⟨_, op_buildSlice_p hT rfl rfl rfl rfl rfl rfl rfl rfl rfl, ?_⟩) | refine stp ?_ | (refine AL_do2 rfl ?_; first | refine ⟨_, op_call1 rfl rfl rfl rfl (f61 2 3), ?_⟩ | refine ⟨_, op_call1 rfl rfl rfl rfl (f61 10 12), ?_⟩ | refine ⟨_, op_call1 rfl rfl rfl rfl (f61 13 14), ?_⟩ | refine ⟨_, op_call1 rfl rfl rfl rfl (f60 17), ?_⟩) | refine AL_gdec rfl rfl rfl (fun hg => ?_) (fun hg => ?_) | refine AL_gnot rfl rfl rfl (fun hg => ?_) (fun hg => ?_) | refine AL_gcases rfl rfl rfl (fun hg => ?_) (fun hg => ?_)))
  exact ⟨_, _, rfl, rfl, rfl⟩

theorem aggEq37 : AggEq Tryz.prog 37 2 := ⟨by kernel_rfl, fun xs ys w hx hy => by
  obtain ⟨a, b, rfl⟩ : ∃ a b, xs = [a, b] := by match xs, hx with | [a, b], _ => exact ⟨a, b, rfl⟩
  obtain ⟨c, d, rfl⟩ : ∃ c d, ys = [c, d] := by match ys, hy with | [c, d], _ => exact ⟨c, d, rfl⟩
  unfold intsV
  rw [run_equalIn_struct (P := Tryz.prog) w 9999 37 _ _ (by kernel_rfl) (by kernel_rfl)]
  have hf : (Tryz.prog.fieldsOf 37).toList.map (fun f => (f.name == "_", f.type, f.offset)) = [(false, 3, 0), (false, 3, 1)] := by kernel_rfl
  generalize (Tryz.prog.fieldsOf 37).toList = fs at hf
  cases fs with
  | nil => exact absurd (congrArg List.length hf) (by simp)
  | cons f0 fs => cases fs with
   | nil => exact absurd (congrArg List.length hf) (by simp)
   | cons f1 fs => cases fs with
    | cons f2 fs => exact absurd (congrArg List.length hf) (by simp)
    | nil =>
    simp only [List.map_cons, List.map_nil, List.cons.injEq, Prod.mk.injEq, beq_eq_false_iff_ne, and_true] at hf
    obtain ⟨⟨n0, t0, o0⟩, n1, t1, o1⟩ := hf
    have hu : Tryz.prog.underlying 3 = some (.int .i64) := und3
    have ht := hT.ty (t := 3) (i := ⟨1, false, 8, [.pv (.int .i64 0)], .int .i64⟩) rfl
    have p0 : ∀ (x y : Int), (part 3 #[.int .i64 x, .int .i64 y] 0).run Tryz.prog w = .ok (.int .i64 x) w := fun x y => by
      simp [part, ht.run_agg w]
    have p1 : ∀ (x y : Int), (part 3 #[.int .i64 x, .int .i64 y] 1).run Tryz.prog w = .ok (.int .i64 y) w := fun x y => by
      simp [part, ht.run_agg w]
    simp only [List.map_cons, List.map_nil, Op.eqFields, t0, t1, o0, o1, n0, n1, ne_eq, not_false_eq_true, if_true, Sem.run_bind, p0, p1, Result.andThen_ok, run_equalIn_int w 9998 3 .i64 .i64 _ _ hu, Sem.run_ite, Sem.run_pure]
    by_cases h1 : a = c <;> by_cases h2 : b = d <;> simp [h1, h2]⟩

/-- Two lists are equal: the loop's reasons. -/
theorem drop_iff {α : Type} {a b : List α} {k : Nat} {x y : α} (hx : a[k]? = some x) (hy : b[k]? = some y) : (a.drop k = b.drop k) ↔ (x = y ∧ a.drop (k + 1) = b.drop (k + 1)) := by
  have hk := (List.getElem?_eq_some_iff.1 hx).1
  have hk2 := (List.getElem?_eq_some_iff.1 hy).1
  rw [List.drop_eq_getElem_cons hk, List.drop_eq_getElem_cons hk2, (List.getElem?_eq_some_iff.1 hx).2, (List.getElem?_eq_some_iff.1 hy).2, List.cons.injEq]

theorem f32 (a b : List Span) (ha : a.length ≤ 1000) : ACalls Tryz.prog 32 [eSpans a, eSpans b] (fun r => r = .pv (.bool (decide (a = b)))) := by
  refine ACalls.of_body hT Tryz.func32 rfl (by kernel_rfl) rfl ?_
  (repeat (refine stp ?_))
  refine AW_cond rfl (fun hc => ?_) (fun hc => ?_)
  · (repeat (refine stp ?_))
    exact ⟨_, _, rfl, rfl, by
      have : a ≠ b := by rintro rfl; simp at hc
      simp [this]⟩
  · have hlen : a.length = b.length := by simp at hc; omega
    (repeat (refine stp ?_))
    refine AW_loopC (fun k : Nat => k ≤ a.length ∧ (a = b ↔ a.drop k = b.drop k)) (fun k => mkSt [(0, .pv (eSpans a)), (1, .pv (eSpans b)), (5, .pv (vi k))] [] 0) (fun k => a.length - k) 0 ⟨Nat.zero_le _, by simp⟩ ?_ ?_
    · (refine Le.mk ?_ ?_; all_goals (repeat' (first | exact trivial | refine sle ?_ | refine ⟨?_, rfl, ?_⟩ | refine ⟨?_, by decide, rfl, ?_⟩ | fail)))
    · rintro k ⟨hk, hi⟩
      (repeat (refine stp ?_))
      refine AW_if rfl (fun hc => ?_) (fun hc => ?_)
      · have hk' : k < a.length := by omega
        obtain ⟨x, hx⟩ : ∃ x, a[k]? = some x := ⟨a[k], by simp [hk']⟩
        obtain ⟨y, hy⟩ : ∃ y, b[k]? = some y := ⟨b[k]'(by omega), by simp⟩
        have e1 := get_map eSpan hx
        have e2 := get_map eSpan hy
        rw [drop_iff hx hy] at hi
        (repeat (refine stp ?_))
        (repeat (refine sdr ?_))
        refine DG_next (D_neqS (ms := [x.low, x.high]) (ns := [y.low, y.high]) aggEq37 rfl rfl rfl rfl rfl rfl rfl) ?_
        refine DG_end hM (by kernel_rfl) ?_
        (repeat (refine stp ?_))
        refine AW_cond rfl (fun hc2 => ?_) (fun hc2 => ?_)
        · (repeat (refine stp ?_))
          exact ⟨_, _, rfl, rfl, by
            have : a ≠ b := fun h => by
              have h1 := (hi.1 h).1
              subst h1
              simp at hc2
            simp [this]⟩
        · (repeat (refine stp ?_))
          have hxy : x = y := by
            cases x; cases y; simp_all
          refine ⟨k + 1, ⟨by omega, by rw [hi]; simp [hxy]⟩, by omega, ?_⟩
          (refine Le.mk ?_ ?_; all_goals (repeat' (first | exact trivial | refine sle ?_ | refine ⟨?_, rfl, ?_⟩ | refine ⟨?_, by decide, rfl, ?_⟩ | fail)))
      · have hk' : k = a.length := by omega
        subst hk'
        (repeat (refine stp ?_))
        exact ⟨_, _, rfl, rfl, by
          have : a = b := hi.2 (by rw [List.drop_length, List.drop_eq_nil_of_le (by omega)])
          simp [this]⟩

theorem f38 (a b : List Int) (ha : a.length ≤ 1000) : ACalls Tryz.prog 38 [eInts a, eInts b] (fun r => r = .pv (.bool (decide (a = b)))) := by
  refine ACalls.of_body hT Tryz.func38 rfl (by kernel_rfl) rfl ?_
  (repeat (refine stp ?_))
  refine AW_cond rfl (fun hc => ?_) (fun hc => ?_)
  · (repeat (refine stp ?_))
    exact ⟨_, _, rfl, rfl, by
      have : a ≠ b := by rintro rfl; simp at hc
      simp [this]⟩
  · have hlen : a.length = b.length := by simp at hc; omega
    (repeat (refine stp ?_))
    refine AW_loopC (fun k : Nat => k ≤ a.length ∧ (a = b ↔ a.drop k = b.drop k)) (fun k => mkSt [(0, .pv (eInts a)), (1, .pv (eInts b)), (5, .pv (vi k))] [] 0) (fun k => a.length - k) 0 ⟨Nat.zero_le _, by simp⟩ ?_ ?_
    · (refine Le.mk ?_ ?_; all_goals (repeat' (first | exact trivial | refine sle ?_ | refine ⟨?_, rfl, ?_⟩ | refine ⟨?_, by decide, rfl, ?_⟩ | fail)))
    · rintro k ⟨hk, hi⟩
      (repeat (refine stp ?_))
      refine AW_if rfl (fun hc => ?_) (fun hc => ?_)
      · have hk' : k < a.length := by omega
        obtain ⟨x, hx⟩ : ∃ x, a[k]? = some x := ⟨a[k], by simp [hk']⟩
        obtain ⟨y, hy⟩ : ∃ y, b[k]? = some y := ⟨b[k]'(by omega), by simp⟩
        have e1 := get_map eInt hx
        have e2 := get_map eInt hy
        rw [drop_iff hx hy] at hi
        (repeat (refine stp ?_))
        (repeat (refine sdr ?_))

        refine DG_end hM (by kernel_rfl) ?_
        (repeat (refine stp ?_))
        refine AW_cond rfl (fun hc2 => ?_) (fun hc2 => ?_)
        · (repeat (refine stp ?_))
          exact ⟨_, _, rfl, rfl, by
            have : a ≠ b := fun h => by
              have h1 := (hi.1 h).1
              subst h1
              simp at hc2
            simp [this]⟩
        · (repeat (refine stp ?_))
          have hxy : x = y := by
            simp_all
          refine ⟨k + 1, ⟨by omega, by rw [hi]; simp [hxy]⟩, by omega, ?_⟩
          (refine Le.mk ?_ ?_; all_goals (repeat' (first | exact trivial | refine sle ?_ | refine ⟨?_, rfl, ?_⟩ | refine ⟨?_, by decide, rfl, ?_⟩ | fail)))
      · have hk' : k = a.length := by omega
        subst hk'
        (repeat (refine stp ?_))
        exact ⟨_, _, rfl, rfl, by
          have : a = b := hi.2 (by rw [List.drop_length, List.drop_eq_nil_of_le (by omega)])
          simp [this]⟩

theorem f59 (a b : List Int) (ha : a.length ≤ 1000) : ACalls Tryz.prog 59 [eInts a, eInts b] (fun r => r = .pv (.bool (decide (a = b)))) := by
  refine ACalls.of_body hT Tryz.func59 rfl (by kernel_rfl) rfl ?_
  (repeat (refine stp ?_))
  refine AW_cond rfl (fun hc => ?_) (fun hc => ?_)
  · (repeat (refine stp ?_))
    exact ⟨_, _, rfl, rfl, by
      have : a ≠ b := by rintro rfl; simp at hc
      simp [this]⟩
  · have hlen : a.length = b.length := by simp at hc; omega
    (repeat (refine stp ?_))
    refine AW_loopC (fun k : Nat => k ≤ a.length ∧ (a = b ↔ a.drop k = b.drop k)) (fun k => mkSt [(0, .pv (eInts a)), (1, .pv (eInts b)), (5, .pv (vi k))] [] 0) (fun k => a.length - k) 0 ⟨Nat.zero_le _, by simp⟩ ?_ ?_
    · (refine Le.mk ?_ ?_; all_goals (repeat' (first | exact trivial | refine sle ?_ | refine ⟨?_, rfl, ?_⟩ | refine ⟨?_, by decide, rfl, ?_⟩ | fail)))
    · rintro k ⟨hk, hi⟩
      (repeat (refine stp ?_))
      refine AW_if rfl (fun hc => ?_) (fun hc => ?_)
      · have hk' : k < a.length := by omega
        obtain ⟨x, hx⟩ : ∃ x, a[k]? = some x := ⟨a[k], by simp [hk']⟩
        obtain ⟨y, hy⟩ : ∃ y, b[k]? = some y := ⟨b[k]'(by omega), by simp⟩
        have e1 := get_map eInt hx
        have e2 := get_map eInt hy
        rw [drop_iff hx hy] at hi
        (repeat (refine stp ?_))
        (repeat (refine sdr ?_))

        refine DG_end hM (by kernel_rfl) ?_
        (repeat (refine stp ?_))
        refine AW_cond rfl (fun hc2 => ?_) (fun hc2 => ?_)
        · (repeat (refine stp ?_))
          exact ⟨_, _, rfl, rfl, by
            have : a ≠ b := fun h => by
              have h1 := (hi.1 h).1
              subst h1
              simp at hc2
            simp [this]⟩
        · (repeat (refine stp ?_))
          have hxy : x = y := by
            simp_all
          refine ⟨k + 1, ⟨by omega, by rw [hi]; simp [hxy]⟩, by omega, ?_⟩
          (refine Le.mk ?_ ?_; all_goals (repeat' (first | exact trivial | refine sle ?_ | refine ⟨?_, rfl, ?_⟩ | refine ⟨?_, by decide, rfl, ?_⟩ | fail)))
      · have hk' : k = a.length := by omega
        subst hk'
        (repeat (refine stp ?_))
        exact ⟨_, _, rfl, rfl, by
          have : a = b := hi.2 (by rw [List.drop_length, List.drop_eq_nil_of_le (by omega)])
          simp [this]⟩
end Go.Abs

/- Print: the text. -/
namespace Go.Abs
open Go.Proofs
set_option linter.unusedVariables false
set_option linter.unusedSimpArgs false
set_option maxRecDepth 100000

def nmTop : ByteArray := "house".toUTF8
def nmDye : ByteArray := "dye".toUTF8
def nmStock : ByteArray := "stock".toUTF8
def nmBath : ByteArray := "bath".toUTF8
def topNums (h : List Dye) (l : List Stock) : List Int := [(h.length : Int), (l.length : Int)]
def stNums (s : Stock) : List Int := [s.many, s.price, (s.baths.length : Int)]
def baNums (b : Bath) : List Int := [b.dye, b.temper, b.hours.low, b.hours.high]
def rowsNums (h : List Dye) (l : List Stock) : List (List Int) := topNums h l :: (h.map dyeNums ++ l.flatMap fun s => stNums s :: s.baths.map baNums)
def blkB (s : Stock) : List ByteArray := lineB nmStock (stNums s) :: s.baths.map fun b => lineB nmBath (baNums b)
def headB (h : List Dye) (l : List Stock) : List ByteArray := lineB nmTop (topNums h l) :: h.map fun d => lineB nmDye (dyeNums d)
def linesB (h : List Dye) (l : List Stock) : List ByteArray := headB h l ++ l.flatMap blkB
def bsum : List UInt8 → Int → Int
  | [], _ => 0
  | b :: r, p => (b.toNat : Int) * p + bsum r (p + 1)
theorem bsum_append : ∀ (l m : List UInt8) (p : Int), bsum (l ++ m) p = bsum l p + bsum m (p + l.length)
  | [], m, p => by simp [bsum]
  | x :: l, m, p => by
    simp only [List.cons_append, bsum, bsum_append l m, List.length_cons, Int.natCast_add, Int.natCast_one]
    rw [show p + 1 + (l.length : Int) = p + ((l.length : Int) + 1) by omega]; omega
theorem bsum_bd : ∀ (l : List UInt8) (p : Int), 0 ≤ p → p + l.length ≤ 1001 → 0 ≤ bsum l p ∧ bsum l p ≤ 300000 * l.length
  | [], p, _, _ => by simp [bsum]
  | b :: l, p, h0, h1 => by
    simp only [List.length_cons, Int.natCast_add, Int.natCast_one] at h1 ⊢
    have ih := bsum_bd l (p + 1) (by omega) (by omega)
    have hb : (b.toNat : Int) ≤ 255 := by have := b.toNat_lt; omega
    have h2 : 0 ≤ (b.toNat : Int) * p := Int.mul_nonneg (by omega) h0
    have h3 : (b.toNat : Int) * p ≤ 255 * 1001 := Int.mul_le_mul hb (by omega) h0 (by omega)
    simp only [bsum]; omega
def lineSum (x : ByteArray) : Int := bsum x.data.toList 1
def checkI (L : List ByteArray) : Int := sumI (L.map lineSum)
def nlB : ByteArray := ⟨#[10]⟩
def endB : ByteArray := ⟨#[10, 101, 110, 100, 32]⟩
def chkB (c : Int) : ByteArray := itoaB (c / 100) ++ (itoaB (c / 10 % 10) ++ itoaB (c % 10))
def textOf (L : List ByteArray) : ByteArray := (((joinB L nlB ++ endB) ++ itoaB (checkI L % 113 / 100)) ++ itoaB (checkI L % 113 / 10 % 10)) ++ itoaB (checkI L % 113 % 10) ++ nlB
def textB (h : List Dye) (l : List Stock) : ByteArray := textOf (linesB h l)
def eStrC (x : ByteArray) : List PV := [.str x]

theorem itoa_size {n : Nat} (h : n < 100) : (itoaB n).size ≤ 2 := by
  have : ∀ m : Fin 100, (Lib.decDigits m.1).length ≤ 2 := by
    intro m
    unfold Lib.decDigits
    split
    · simp
    · unfold Lib.decDigits
      split
      · simp
      · have := m.2; omega
  exact this ⟨n, h⟩
theorem join_size {L : List ByteArray} (hL : L.length ≤ 200) (hs : ∀ x ∈ L, x.size ≤ 500) : (joinB L nlB).size ≤ 200000 := by
  have key : ∀ (L : List ByteArray), (∀ x ∈ L, x.size ≤ 500) → Lib.lens (L.map (·.data.toList)) ≤ 500 * L.length := by
    intro L
    induction L with
    | nil => intro _; simp [Lib.lens]
    | cons x L ih =>
      intro h
      have h1 := ih fun y hy => h y (by simp [hy])
      have h2 : x.data.toList.length ≤ 500 := h x (by simp)
      simp only [Lib.lens, List.map_cons, List.sum_cons, List.length_cons] at h1 ⊢
      omega
  show (Lib.join (L.map (·.data.toList)) nlB.data.toList).toArray.size ≤ _
  cases L with
  | nil => simp [Lib.join_nil]
  | cons x L =>
    have := key (x :: L) hs
    simp only [List.map_cons, List.size_toArray, Lib.join_length, List.length_map, List.length_cons] at this hL ⊢
    have h1 : nlB.data.toList.length = 1 := rfl
    rw [h1]; omega

/-- The check's loops, and what comes behind them. -/
def SizesOK (L : List ByteArray) : Prop := L ≠ [] ∧ L.length ≤ 200 ∧ ∀ x ∈ L, x.size ≤ 500
theorem lineSum_bd {x : ByteArray} (h : x.size ≤ 500) : 0 ≤ lineSum x ∧ lineSum x ≤ 150000000 := by
  have h1 : x.data.toList.length = x.size := rfl
  have := bsum_bd x.data.toList 1 (by omega) (by omega)
  unfold lineSum; omega
theorem checkI_bd {L : List ByteArray} (hL : L.length ≤ 200) (hs : ∀ x ∈ L, x.size ≤ 500) : 0 ≤ checkI L ∧ checkI L ≤ 150000000 * 200 := by
  have key : ∀ (L : List ByteArray), (∀ x ∈ L, x.size ≤ 500) → 0 ≤ checkI L ∧ checkI L ≤ 150000000 * L.length := by
    intro L
    induction L with
    | nil => intro _; simp [checkI, sumI]
    | cons x L ih =>
      intro h
      have h1 := ih fun y hy => h y (by simp [hy])
      have h2 := lineSum_bd (h x (by simp))
      simp only [checkI, List.map_cons, sumI, List.length_cons, Int.natCast_add, Int.natCast_one] at h1 ⊢
      omega
  have := key L hs
  omega
theorem byte_wrap (b : UInt8) : IntKind.i64.wrap (b.toNat : Int) = b.toNat := by
  have := b.toNat_lt
  unfold IntKind.wrap; simp [IntKind.signed, IntKind.bits]; omega
theorem nat_wrap {n : Nat} (h : n < 1000) : IntKind.i64.wrap (n : Int) = n := by
  unfold IntKind.wrap; simp [IntKind.signed, IntKind.bits]; omega
set_option maxHeartbeats 8000000 in
theorem f156 (h : List Dye) (l : List Stock) (hh : h.length ≤ 10) (hl : l.length ≤ 10) (htk : ∀ d ∈ h, d.takes.length ≤ 10) (hbt : ∀ s ∈ l, s.baths.length ≤ 10) (hn : ∀ ns ∈ rowsNums h l, NumsOK ns) : ACalls Tryz.prog 156 [eHouse h, eStocks l] (fun r => r = .pv (.str (textB h l))) := by
  have hnTop : NumsOK (topNums h l) := hn _ (by simp [rowsNums])
  have hnDye : ∀ d ∈ h, NumsOK (dyeNums d) := fun d hd => hn _ (by simp only [rowsNums, List.mem_cons, List.mem_append, List.mem_map]; exact .inr (.inl ⟨d, hd, rfl⟩))
  have hnSt : ∀ s ∈ l, NumsOK (stNums s) := fun s hs => hn _ (by simp only [rowsNums, List.mem_cons, List.mem_append, List.mem_flatMap]; exact .inr (.inr ⟨s, hs, .inl rfl⟩))
  have hnBa : ∀ s ∈ l, ∀ b ∈ s.baths, NumsOK (baNums b) := fun s hs b hb => hn _ (by simp only [rowsNums, List.mem_cons, List.mem_append, List.mem_flatMap, List.mem_map]; exact .inr (.inr ⟨s, hs, .inr ⟨b, hb, rfl⟩⟩))
  have hdl : ∀ d ∈ h, (dyeNums d).length ≤ 21 := fun d hd => by
    have := htk d hd
    rw [dyeNums, List.length_cons, flatMap_const_len (c := 2) (fun _ => rfl)]; omega
  have hOK : SizesOK (linesB h l) := by
    refine ⟨by simp [linesB, headB], ?_, ?_⟩
    · have key : ∀ (l : List Stock), (∀ s ∈ l, s.baths.length ≤ 10) → (l.flatMap blkB).length ≤ 11 * l.length := by
        intro l
        induction l with
        | nil => intro _; simp
        | cons s l ih =>
          intro h
          have h1 := ih fun y hy => h y (by simp [hy])
          have h2 := h s (by simp)
          simp only [List.flatMap_cons, List.length_append, blkB, List.length_cons, List.length_map] at h1 ⊢
          omega
      have := key l hbt
      simp only [linesB, headB, List.length_append, List.length_cons, List.length_map]; omega
    · intro x hx
      have z1 : nmTop.size ≤ 5 := by decide
      have z2 : nmDye.size ≤ 5 := by decide
      have z3 : nmStock.size ≤ 5 := by decide
      have z4 : nmBath.size ≤ 5 := by decide
      simp only [linesB, headB, List.cons_append, List.mem_cons, List.mem_append, List.mem_map, List.mem_flatMap, blkB] at hx
      rcases hx with rfl | ⟨d, hd, rfl⟩ | ⟨s, hs, rfl | ⟨b, hb, rfl⟩⟩
      · have := lineB_size (nm := nmTop) hnTop
        simp only [topNums, List.length_cons, List.length_nil] at this ⊢; omega
      · have := lineB_size (nm := nmDye) (hnDye d hd)
        have := hdl d hd; omega
      · have := lineB_size (nm := nmStock) (hnSt s hs)
        simp only [stNums, List.length_cons, List.length_nil] at this ⊢; omega
      · have := lineB_size (nm := nmBath) (hnBa s hs b hb)
        simp only [baNums, List.length_cons, List.length_nil] at this ⊢; omega
  refine ACalls.of_body hT Tryz.func156 rfl (by kernel_rfl) rfl ?_
  (repeat' (first | refine stp ?_ | refine stz ?_ | (refine AL_do2 rfl ?_; first | refine ⟨_, op_call1 rfl rfl rfl rfl (f199top (h.length : Int) (l.length : Int) hnTop (by simp)), ?_⟩) | refine AL_gdec rfl rfl rfl (fun hg => ?_) (fun hg => ?_) | refine AL_gnot rfl rfl rfl (fun hg => ?_) (fun hg => ?_) | refine AL_gcases rfl rfl rfl (fun hg => ?_) (fun hg => ?_)))
  refine AW_loopC (fun k : Nat => k ≤ h.length) (fun k => mkSt [(1, .pv (eStocks l)), (5, .arr 1), (26, .pv (.sl (h.map eDye))), (27, .pv (vi h.length)), (28, .pv (vi k))]
    [(1, .arr 9 1 ((lineB nmTop (topNums h l) :: (h.take k).map fun d => lineB nmDye (dyeNums d)).map eStrC))] 2) (fun k => h.length - k) 0 (Nat.zero_le _) ?_ ?_
  · (refine Le.mk ?_ ?_; all_goals (repeat' (first | exact trivial | refine sle ?_ | refine ⟨?_, rfl, ?_⟩ | refine ⟨?_, by decide, rfl, ?_⟩ | fail)))
  · intro k hk
    have hLl : (lineB nmTop (topNums h l) :: (h.take k).map fun d => lineB nmDye (dyeNums d)).length ≤ 1000 := by simp; omega
    generalize hL : (lineB nmTop (topNums h l) :: (h.take k).map fun d => lineB nmDye (dyeNums d)) = L at hLl ⊢
    (repeat (refine stp ?_))
    refine AW_if rfl (fun hc => ?_) (fun hc => ?_)
    · have hk' : k < h.length := by omega
      obtain ⟨d, hd⟩ : ∃ d, h[k]? = some d := ⟨h[k], by simp [hk']⟩
      have e1 := get_map eDye hd
      have hm := List.mem_of_getElem? hd
      (repeat' (first | refine stp ?_ | refine stz ?_ | (refine AL_do2 rfl ?_; first | refine ⟨_, op_call1 rfl rfl rfl rfl (f199kind d (by have := htk d hm; omega) (hnDye d hm) (by have := hdl d hm; omega)), ?_⟩) | refine AL_gdec rfl rfl rfl (fun hg => ?_) (fun hg => ?_) | refine AL_gnot rfl rfl rfl (fun hg => ?_) (fun hg => ?_) | refine AL_gcases rfl rfl rfl (fun hg => ?_) (fun hg => ?_)))
      refine ⟨k + 1, hk', by omega, ?_⟩
      (refine Le.mkR [(1, 4)] ?_ ?_ rfl; all_goals (repeat' (first | exact trivial | refine sle ?_ | refine ⟨?_, rfl, ?_⟩ | refine ⟨?_, by decide, rfl, ?_⟩ | fail)))
      rw [map_take_succ _ hd, ← List.cons_append, hL, List.map_append]; rfl
    · have hk' : k = h.length := by omega
      rw [hk', List.take_length] at hL
      change headB h l = L at hL
      subst hL
      (repeat (refine stp ?_))
      refine AW_loopC (fun k : Nat => k ≤ l.length) (fun k => mkSt [(5, .arr 1), (40, .pv (eStocks l)), (41, .pv (vi l.length)), (42, .pv (vi k))] [(1, .arr 9 1 ((headB h l ++ (l.take k).flatMap blkB).map eStrC))] 2) (fun k => l.length - k) 0 (Nat.zero_le _) ?_ ?_
      · (refine Le.mk ?_ ?_; all_goals (repeat' (first | exact trivial | refine sle ?_ | refine ⟨?_, rfl, ?_⟩ | refine ⟨?_, by decide, rfl, ?_⟩ | fail)))
        show some (AObj.arr 9 1 ((headB h l).map eStrC)) = some (AObj.arr 9 1 ((headB h l ++ (l.take 0).flatMap blkB).map eStrC)); simp
      · intro k hk
        (repeat (refine stp ?_))
        refine AW_if rfl (fun hc => ?_) (fun hc => ?_)
        · have hk' : k < l.length := by omega
          obtain ⟨s, hs⟩ : ∃ s, l[k]? = some s := ⟨l[k], by simp [hk']⟩
          have e1 := get_map eStock hs
          have hm := List.mem_of_getElem? hs
          have hb10 := hbt s hm
          have hfl : (headB h l ++ (l.take k).flatMap blkB).length ≤ 200 := by
            have h1 := hOK.2.1
            have h2 : l.flatMap blkB = (l.take k).flatMap blkB ++ (l.drop k).flatMap blkB := by rw [← List.flatMap_append, List.take_append_drop]
            rw [linesB, h2] at h1
            simp only [List.length_append] at h1 ⊢; omega
          generalize hL0 : (headB h l ++ (l.take k).flatMap blkB) = L0 at hfl ⊢
          (repeat' (first | refine stp ?_ | refine stz ?_ | (refine AL_do2 rfl ?_; first | refine ⟨_, op_call1 rfl rfl rfl rfl (f199lot s (by omega) (hnSt s hm) (by simp)), ?_⟩) | refine AL_gdec rfl rfl rfl (fun hg => ?_) (fun hg => ?_) | refine AL_gnot rfl rfl rfl (fun hg => ?_) (fun hg => ?_) | refine AL_gcases rfl rfl rfl (fun hg => ?_) (fun hg => ?_)))
          refine AW_loopC (fun j : Nat => j ≤ s.baths.length) (fun j => mkSt [(5, .arr 2), (40, .pv (eStocks l)), (41, .pv (vi l.length)), (42, .pv (vi k)), (54, .pv (eBaths s.baths)), (55, .pv (vi s.baths.length)), (56, .pv (vi j))]
            [(2, .arr 9 1 ((L0 ++ (lineB nmStock (stNums s) :: (s.baths.take j).map fun b => lineB nmBath (baNums b))).map eStrC))] 3) (fun j => s.baths.length - j) 0 (Nat.zero_le _) ?_ ?_
          · (refine Le.mkR [(2, 4)] ?_ ?_ rfl; all_goals (repeat' (first | exact trivial | refine sle ?_ | refine ⟨?_, rfl, ?_⟩ | refine ⟨?_, by decide, rfl, ?_⟩ | fail)))
            show some (AObj.arr 9 1 (L0.map eStrC ++ [eStrC (lineB nmStock (stNums s))])) = some (AObj.arr 9 1 ((L0 ++ (lineB nmStock (stNums s) :: (s.baths.take 0).map fun b => lineB nmBath (baNums b))).map eStrC)); simp
          · intro j hj
            have hLl : (L0 ++ (lineB nmStock (stNums s) :: (s.baths.take j).map fun b => lineB nmBath (baNums b))).length ≤ 1000 := by simp; omega
            generalize hL : (L0 ++ (lineB nmStock (stNums s) :: (s.baths.take j).map fun b => lineB nmBath (baNums b))) = L at hLl ⊢
            (repeat (refine stp ?_))
            refine AW_if rfl (fun hc => ?_) (fun hc => ?_)
            · have hj' : j < s.baths.length := by omega
              obtain ⟨b, hb⟩ : ∃ b, s.baths[j]? = some b := ⟨s.baths[j], by simp [hj']⟩
              have e2 := get_map eBath hb
              have hm2 := List.mem_of_getElem? hb
              (repeat' (first | refine stp ?_ | refine stz ?_ | (refine AL_do2 rfl ?_; first | refine ⟨_, op_call1 rfl rfl rfl rfl (f199bath b (hnBa s hm b hm2) (by simp)), ?_⟩) | refine AL_gdec rfl rfl rfl (fun hg => ?_) (fun hg => ?_) | refine AL_gnot rfl rfl rfl (fun hg => ?_) (fun hg => ?_) | refine AL_gcases rfl rfl rfl (fun hg => ?_) (fun hg => ?_)))
              refine ⟨j + 1, hj', by omega, ?_⟩
              (refine Le.mkR [(2, 5)] ?_ ?_ rfl; all_goals (repeat' (first | exact trivial | refine sle ?_ | refine ⟨?_, rfl, ?_⟩ | refine ⟨?_, by decide, rfl, ?_⟩ | fail)))
              rw [map_take_succ _ hb, ← List.cons_append, ← List.append_assoc, hL, List.map_append]; rfl
            · have hj' : j = s.baths.length := by omega
              rw [hj', List.take_length] at hL
              (repeat (refine stp ?_))
              refine ⟨k + 1, hk', by omega, ?_⟩
              (refine Le.mkR [(1, 2)] ?_ ?_ rfl; all_goals (repeat' (first | exact trivial | refine sle ?_ | refine ⟨?_, rfl, ?_⟩ | refine ⟨?_, by decide, rfl, ?_⟩ | fail)))
              show some (AObj.arr 9 1 (L.map eStrC)) = some (AObj.arr 9 1 ((headB h l ++ (l.take (k + 1)).flatMap blkB).map eStrC))
              rw [← hL, List.take_add_one, hs, ← hL0]
              simp [blkB]
        · have hk' : k = l.length := by omega
          rw [hk', List.take_length]
          rw [show headB h l ++ l.flatMap blkB = linesB h l from rfl]
          unfold textB
          generalize linesB h l = L at hOK ⊢
          obtain ⟨hne, hLl, hsz⟩ := hOK
          refine AW_pure (t := 5) rfl rfl ?_
          (repeat (refine stp ?_))
          refine AW_loopC (fun i : Nat => i ≤ L.length) (fun i => mkSt [(5, .pv (eStrs L)), (12, .pv (vi (checkI (L.take i)))), (69, .pv (eStrs L)), (70, .pv (vi L.length)), (71, .pv (vi i))] [] 2) (fun i => L.length - i) 0 (Nat.zero_le _) ?_ ?_
          · (refine Le.mk ?_ ?_; all_goals (repeat' (first | exact trivial | refine sle ?_ | refine ⟨?_, rfl, ?_⟩ | refine ⟨?_, by decide, rfl, ?_⟩ | fail)))
          · intro i hi
            (repeat (refine stp ?_))
            refine AW_if rfl (fun hc => ?_) (fun hc => ?_)
            · have hi' : i < L.length := by omega
              obtain ⟨x, hx⟩ : ∃ x, L[i]? = some x := ⟨L[i], by simp [hi']⟩
              have e3 := get_map eStrC hx
              have hxs := hsz x (List.mem_of_getElem? hx)
              have hcb := checkI_bd (L := L.take i) (by simp; omega) fun y hy => hsz y (List.mem_of_mem_take hy)
              have hxl : x.data.toList.length = x.size := rfl
              (repeat' (first | refine stp ?_ | refine stz ?_ | refine AL_gdec rfl rfl rfl (fun hg => ?_) (fun hg => ?_) | refine AL_gnot rfl rfl rfl (fun hg => ?_) (fun hg => ?_) | refine AL_gcases rfl rfl rfl (fun hg => ?_) (fun hg => ?_)))
              refine AW_loopC (fun j : Nat => j ≤ x.size) (fun j => mkSt [(5, .pv (eStrs L)), (12, .pv (vi (checkI (L.take i) + bsum (x.data.toList.take j) 1))), (14, .pv (.str x)), (69, .pv (eStrs L)), (70, .pv (vi L.length)), (71, .pv (vi i)), (76, .pv (vi x.size)), (77, .pv (vi j))] [] 2) (fun j => x.size - j) 0 (Nat.zero_le _) ?_ ?_
              · (refine Le.mk ?_ ?_; all_goals (repeat' (first | exact trivial | refine sle ?_ | refine ⟨?_, rfl, ?_⟩ | refine ⟨?_, by decide, rfl, ?_⟩ | fail)))
                show some (FV.pv (vi (checkI (L.take i)))) = some (FV.pv (vi (checkI (L.take i) + bsum (x.data.toList.take 0) 1))); simp [bsum]
              · intro j hj
                (repeat (refine stp ?_))
                refine AW_if rfl (fun hc => ?_) (fun hc => ?_)
                · have hj' : j < x.size := by omega
                  obtain ⟨b, hb⟩ : ∃ b, x.data.toList[j]? = some b := ⟨x.data.toList[j], by simp [hxl, hj']⟩
                  have hb' : x[((j : Nat) : Int).toNat]? = some b := by
                    rw [Int.toNat_natCast]
                    rw [List.getElem?_eq_getElem (by omega)] at hb
                    rw [getElem?_pos x j hj']
                    have hb3 : x.data[j]'hj' = b := by simpa using hb
                    exact congrArg some hb3
                  have hsb := bsum_bd (x.data.toList.take j) 1 (by omega) (by simp; omega)
                  have hj2 : ((x.data.toList.take j).length : Int) = j := by simp; omega
                  have hsn : bsum (x.data.toList.take (j + 1)) 1 = bsum (x.data.toList.take j) 1 + (b.toNat : Int) * ((j : Int) + 1) := by
                    rw [List.take_add_one, hb, bsum_append, hj2]
                    simp only [Option.toList_some, bsum]
                    rw [show (1 : Int) + j = j + 1 by omega]; omega
                  have hbt : (b.toNat : Int) ≤ 255 := by have := b.toNat_lt; omega
                  have hm1 : 0 ≤ (b.toNat : Int) * ((j : Int) + 1) := Int.mul_nonneg (by omega) (by omega)
                  have hm2 : (b.toNat : Int) * ((j : Int) + 1) ≤ 255 * 501 := Int.mul_le_mul hbt (by omega) (by omega) (by omega)
                  have hw := byte_wrap b
                  have hmul : -9223372036854775808 ≤ IntKind.i64.wrap (b.toNat : Int) * ((j : Int) + 1) ∧ IntKind.i64.wrap (b.toNat : Int) * ((j : Int) + 1) ≤ 9223372036854775807 := by rw [hw]; omega
                  have hmul2 : 0 ≤ IntKind.i64.wrap (b.toNat : Int) * ((j : Int) + 1) ∧ IntKind.i64.wrap (b.toNat : Int) * ((j : Int) + 1) ≤ 255 * 501 := by rw [hw]; omega
                  (repeat (refine stp ?_))
                  refine AL_do2 rfl ⟨_, op_index_str hT rfl rfl rfl rfl rfl rfl (by omega) hb', ?_⟩
                  (repeat (refine stp ?_))
                  refine ⟨j + 1, hj', by omega, ?_⟩
                  (refine Le.mk ?_ ?_; all_goals (repeat' (first | exact trivial | refine sle ?_ | refine ⟨?_, rfl, ?_⟩ | refine ⟨?_, by decide, rfl, ?_⟩ | fail)))
                  show some (FV.pv (vi (checkI (L.take i) + bsum (x.data.toList.take j) 1 + IntKind.i64.wrap (b.toNat : Int) * ((j : Int) + 1)))) = some (FV.pv (vi (checkI (L.take i) + bsum (x.data.toList.take (j + 1)) 1)))
                  rw [hsn, hw, Int.add_assoc]
                · have hj' : j = x.size := by omega
                  have hsn : checkI (L.take (i + 1)) = checkI (L.take i) + bsum (x.data.toList.take j) 1 := by
                    rw [checkI, map_take_succ _ hx, sumI_append, hj', ← hxl, List.take_length]; simp [sumI, checkI, lineSum]
                  rw [← hsn]
                  (repeat (refine stp ?_))
                  refine ⟨i + 1, hi', by omega, ?_⟩
                  (refine Le.mk ?_ ?_; all_goals (repeat' (first | exact trivial | refine sle ?_ | refine ⟨?_, rfl, ?_⟩ | refine ⟨?_, by decide, rfl, ?_⟩ | fail)))
            · have hi' : i = L.length := by omega
              rw [hi', List.take_length]
              have hcb := checkI_bd hLl hsz
              have hjs := join_size hLl hsz
              obtain ⟨c, hc, hc2⟩ : ∃ c : Nat, (checkI L).tmod 113 = c ∧ c < 113 := ⟨((checkI L).tmod 113).toNat, by
                have := Int.tmod_nonneg 113 hcb.1; omega, by
                have := Int.tmod_nonneg 113 hcb.1; have := Int.tmod_lt_of_pos (checkI L) (b := 113) (by omega); omega⟩
              have hcm : checkI L % 113 = (c : Int) := by rw [← hc, Int.tmod_eq_emod_of_nonneg hcb.1]
              have hq1 : IntKind.i64.wrap ((c : Int).tdiv 100) = ((c / 100 : Nat) : Int) := by rw [show (c : Int).tdiv 100 = ((c / 100 : Nat) : Int) from rfl, nat_wrap (by omega)]
              have hq2 : (IntKind.i64.wrap ((c : Int).tdiv 10)).tmod 10 = ((c / 10 % 10 : Nat) : Int) := by rw [show (c : Int).tdiv 10 = ((c / 10 : Nat) : Int) from rfl, nat_wrap (by omega)]; rfl
              have hq3 : (c : Int).tmod 10 = ((c % 10 : Nat) : Int) := rfl
              have i1 := itoa_size (n := c / 100) (by omega)
              have i2 := itoa_size (n := c / 10 % 10) (by omega)
              have i3 := itoa_size (n := c % 10) (by omega)
              have e0 : endB.size = 5 := rfl
              have n0 : nlB.size = 1 := rfl
              have hx0 : (joinB L nlB ++ endB).size ≤ 200010 := by rw [app_size]; omega
              have hx1 : ((joinB L nlB ++ endB) ++ itoaB (c / 100 : Nat)).size ≤ 200020 := by rw [app_size]; omega
              have hx2 : (((joinB L nlB ++ endB) ++ itoaB (c / 100 : Nat)) ++ itoaB (c / 10 % 10 : Nat)).size ≤ 200030 := by rw [app_size]; omega
              have hx3 : ((((joinB L nlB ++ endB) ++ itoaB (c / 100 : Nat)) ++ itoaB (c / 10 % 10 : Nat)) ++ itoaB (c % 10 : Nat)).size ≤ 200040 := by rw [app_size]; omega
              have j1 : (Lib.join (L.map (·.data.toList)) nlB.data.toList).length ≤ 140737488355328 := by
                have : (joinB L nlB).size = (Lib.join (L.map (·.data.toList)) nlB.data.toList).length := rfl
                omega
              (repeat (refine stp ?_))
              refine AL_do2 rfl ⟨_, op_rem rfl rfl rfl rfl (by decide), ?_⟩
              rw [hc]
              (repeat' (first | refine stp ?_ | (refine AL_do2 rfl ?_; first | refine ⟨_, op_call1 rfl rfl rfl rfl (f200 L nlB (by omega) hne j1), ?_⟩) | refine AL_gdec rfl rfl rfl (fun hg => ?_) (fun hg => ?_) | refine AL_gnot rfl rfl rfl (fun hg => ?_) (fun hg => ?_) | refine AL_gcases rfl rfl rfl (fun hg => ?_) (fun hg => ?_)))
              refine AL_do2 rfl ⟨_, op_strcat (u := joinB L nlB) (v := endB) rfl rfl rfl rfl (by omega), ?_⟩
              (repeat (refine stp ?_))
              refine AL_do2 rfl ⟨_, op_quo rfl rfl rfl rfl (by decide), ?_⟩
              rw [hq1]
              (repeat' (first | refine stp ?_ | (refine AL_do2 rfl ?_; first | refine ⟨_, op_call1 rfl rfl rfl rfl (f201 (c / 100) (by omega)), ?_⟩) | refine AL_gdec rfl rfl rfl (fun hg => ?_) (fun hg => ?_) | refine AL_gnot rfl rfl rfl (fun hg => ?_) (fun hg => ?_) | refine AL_gcases rfl rfl rfl (fun hg => ?_) (fun hg => ?_)))
              refine AL_do2 rfl ⟨_, op_strcat (u := joinB L nlB ++ endB) (v := itoaB (c / 100 : Nat)) rfl rfl rfl rfl (by omega), ?_⟩
              (repeat (refine stp ?_))
              refine AL_do2 rfl ⟨_, op_quo rfl rfl rfl rfl (by decide), ?_⟩
              refine AL_do2 rfl ⟨_, op_rem rfl rfl rfl rfl (by decide), ?_⟩
              rw [hq2]
              (repeat' (first | refine stp ?_ | (refine AL_do2 rfl ?_; first | refine ⟨_, op_call1 rfl rfl rfl rfl (f201 (c / 10 % 10) (by omega)), ?_⟩) | refine AL_gdec rfl rfl rfl (fun hg => ?_) (fun hg => ?_) | refine AL_gnot rfl rfl rfl (fun hg => ?_) (fun hg => ?_) | refine AL_gcases rfl rfl rfl (fun hg => ?_) (fun hg => ?_)))
              refine AL_do2 rfl ⟨_, op_strcat (u := (joinB L nlB ++ endB) ++ itoaB (c / 100 : Nat)) (v := itoaB (c / 10 % 10 : Nat)) rfl rfl rfl rfl (by omega), ?_⟩
              (repeat (refine stp ?_))
              refine AL_do2 rfl ⟨_, op_rem rfl rfl rfl rfl (by decide), ?_⟩
              rw [hq3]
              (repeat' (first | refine stp ?_ | (refine AL_do2 rfl ?_; first | refine ⟨_, op_call1 rfl rfl rfl rfl (f201 (c % 10) (by omega)), ?_⟩) | refine AL_gdec rfl rfl rfl (fun hg => ?_) (fun hg => ?_) | refine AL_gnot rfl rfl rfl (fun hg => ?_) (fun hg => ?_) | refine AL_gcases rfl rfl rfl (fun hg => ?_) (fun hg => ?_)))
              refine AL_do2 rfl ⟨_, op_strcat (u := ((joinB L nlB ++ endB) ++ itoaB (c / 100 : Nat)) ++ itoaB (c / 10 % 10 : Nat)) (v := itoaB (c % 10 : Nat)) rfl rfl rfl rfl (by omega), ?_⟩
              refine AL_do2 rfl ⟨_, op_strcat (u := (((joinB L nlB ++ endB) ++ itoaB (c / 100 : Nat)) ++ itoaB (c / 10 % 10 : Nat)) ++ itoaB (c % 10 : Nat)) (v := nlB) rfl rfl rfl rfl (by omega), ?_⟩
              (repeat (refine stp ?_))
              refine ⟨_, _, rfl, rfl, ?_⟩
              unfold textOf
              rw [hcm]; rfl
def printE (h : List Dye) (l : List Stock) : ByteArray × Int := if isHouseB h && areStocksB h l 0 then (textB h l, 0) else (.empty, 2)
theorem f90 (h : List Dye) (l : List Stock) (hh : houseOK h) (hl : stocksOK l) (hn : isHouseB h = true → areStocksB h l 0 = true → ∀ ns ∈ rowsNums h l, NumsOK ns) : ACalls Tryz.prog 90 [eHouse h, eStocks l] (fun r => r = .tup [.str (printE h l).1, vi (printE h l).2]) := by
  refine ACalls.of_body hT Tryz.func90 rfl (by kernel_rfl) rfl ?_
  (repeat' (first | refine stp ?_ | (refine AL_do2 rfl ?_; first | refine ⟨_, op_call1 rfl rfl rfl rfl (f105 h hh.1 hh.2), ?_⟩ | refine ⟨_, op_call1 rfl rfl rfl rfl (f127 h l 0 hh.1 hl), ?_⟩) | refine AL_gdec rfl rfl rfl (fun hg => ?_) (fun hg => ?_) | refine AL_gnot rfl rfl rfl (fun hg => ?_) (fun hg => ?_) | refine AL_gcases rfl rfl rfl (fun hg => ?_) (fun hg => ?_)))
  · exact ⟨_, _, rfl, rfl, by simp_all [printE]; rfl⟩
  refine AW_cond rfl (fun hc => ?_) (fun hc => ?_)
  · (repeat (refine stp ?_))
    exact ⟨_, _, rfl, rfl, by simp_all [printE]; rfl⟩
  · have c1 : isHouseB h = true := by simp_all
    have c2 : areStocksB h l 0 = true := by simp_all
    have hP := houseP_of c1
    have hS := stocksP_of c2
    have hb : ∀ s ∈ l, s.baths.length ≤ 10 := fun s hs => by have := (hS.2 s hs).1.1; omega
    have hl5 : l.length ≤ 10 := by have := hS.1; omega
    (repeat' (first | refine stp ?_ | (refine AL_do2 rfl ?_; first | refine ⟨_, op_call1 rfl rfl rfl rfl (f156 h l (by have := hP.1; omega) hl5 (fun d hd => by have := (hP.2.2 d hd).1; omega) hb (hn c1 c2)), ?_⟩) | refine AL_gdec rfl rfl rfl (fun hg => ?_) (fun hg => ?_) | refine AL_gnot rfl rfl rfl (fun hg => ?_) (fun hg => ?_) | refine AL_gcases rfl rfl rfl (fun hg => ?_) (fun hg => ?_)))
    exact ⟨_, _, rfl, rfl, by simp [printE, c1, c2]⟩
end Go.Abs
