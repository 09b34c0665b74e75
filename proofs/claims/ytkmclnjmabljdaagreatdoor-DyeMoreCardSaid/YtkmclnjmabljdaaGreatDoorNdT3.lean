/- One step of a walk, whose state is brought into a plain form at once. -/
import Derived.Test.YtkmclnjmabljdaaGreatDoorNdA
set_option linter.unusedVariables false
set_option linter.unusedSimpArgs false
namespace Go.Abs
open Go.Proofs
set_option linter.unusedVariables false
def nN (f : Nat → Option ASt) : Nat → Option ASt
  | 0 => f 0
  | k + 1 => f (k + 1)
def nL {α : Type} (f : List α → Option ASt) : List α → Option ASt
  | [] => f []
  | p :: r => f (p :: r)
def nO {α : Type} (f : Option α → Option ASt) : Option α → Option ASt
  | some y => f (some y)
  | none => f none
def nE {α : Type} (f : List (Nat × Option α) → Option ASt) : List (Nat × Option α) → Option ASt
  | [] => f []
  | (d, x) :: r => nO (fun x => nL (fun r => f ((d, x) :: r)) r) x
/-- The same state, its newest rows laid open. -/
def norm1 : ASt → Option ASt
  | ⟨e, o, n⟩ => nN (fun n => nE (fun o => nE (fun e => some ⟨e, o, n⟩) e) o) n
theorem nN_id (f : Nat → Option ASt) (n : Nat) : nN f n = f n := by cases n <;> rfl
theorem nL_id {α : Type} (f : List α → Option ASt) (l : List α) : nL f l = f l := by cases l <;> rfl
theorem nO_id {α : Type} (f : Option α → Option ASt) (o : Option α) : nO f o = f o := by cases o <;> rfl
theorem nE_id {α : Type} (f : List (Nat × Option α) → Option ASt) (l : List (Nat × Option α)) : nE f l = f l := by
  cases l with
  | nil => rfl
  | cons p r => simp only [nE, nO_id, nL_id]
theorem norm1_id (s : ASt) : norm1 s = some s := by simp only [norm1, nN_id, nE_id]
section
variable {P : Program} {T : Nat → Option TyI} {nt : Nat} {s s2 : ASt} {o : Oper} {ops : Array Oper} {rest : List Oper} {Q : Exit → ASt → Prop}
theorem nrmA (h : norm1 s = some s2) (x : AL P nt ops rest Q s2) : AL P nt ops rest Q s := by
  rw [norm1_id] at h; cases h; exact x
theorem nrmD {id : Nat} {opl : List Oper} {s0 : ASt} {k : Nat} {l : List DEnt} (h : norm1 s = some s2) (x : DG P nt id opl Q s0 k rest s2 l) : DG P nt id opl Q s0 k rest s l := by
  rw [norm1_id] at h; cases h; exact x
theorem AL_stepN (hT : TabOK P T) (hs : (stepG T nt ops s o).bind norm1 = some s2) (h : AL P nt ops rest Q s2) : AL P nt ops (o :: rest) Q s := by
  cases hg : stepG T nt ops s o with
  | none => rw [hg] at hs; cases hs
  | some s1 =>
    rw [hg] at hs
    have : some s1 = some s2 := (norm1_id s1).symm.trans hs
    cases this
    exact AL_step hT hg h
/-- For a check that a goal is a list of steps at all. -/
theorem AL_id (h : AL P nt ops rest Q s) : AL P nt ops rest Q s := h
/-- For a check that a guard is settled already. -/
theorem AL_glit {j d : Nat} {b c : Bool} (hg : o.guard = some (j, b)) (hj : (ops[j]?).bind (·.dst) = some d) (hd : s.get d = some (.pv (.bool c))) (hc : c = true ∨ c = false) (h : AL P nt ops (o :: rest) Q s) : AL P nt ops (o :: rest) Q s := h
theorem AL_le {s' : ASt} (hle : Le s s') (h : AL P nt ops rest Q s') : AL P nt ops rest Q s := fun ro W0 D0 D φ a w hr hI => by
  obtain ⟨φ', hI'⟩ := hle.inv hI
  exact h ro W0 D0 D φ' a w hr hI'
end
theorem stq {G' G : Prop} (y : G') (h : G' → G := by intro x; first | exact AL_stepN hT rfl x | exact AL_nil_then x | exact AW_seq x | exact AW_region x | exact AW_block x | exact AW_ret x | exact AW_skip x | exact AW_exit x | exact AW_label x | exact then_normal x | exact then_exit x | exact then_ret x | exact inblk_here x | exact inblk_normal x | exact inblk_ret x | exact inblk_other rfl x | exact AL_nil x | exact DG_start x | exact AW_scope x | exact nogo_normal x | exact nogo_ret x | exact nogo_exit x | exact AW_cond_t rfl x | exact AW_cond_f rfl x | (refine AL_do2 rfl ?_; first | exact ⟨_, op_add rfl rfl rfl rfl (by omega), nrmA rfl x⟩ | exact ⟨_, op_sub rfl rfl rfl rfl (by omega), nrmA rfl x⟩ | exact ⟨_, op_len_sl hT rfl rfl rfl rfl rfl (len_map _ _), nrmA rfl x⟩ | exact ⟨_, op_indexAddr_sl hT rfl rfl rfl rfl rfl rfl rfl (by omega) (by assumption) rfl rfl, nrmA rfl x⟩ | exact ⟨_, op_mul rfl rfl rfl rfl (by assumption), nrmA rfl x⟩ | exact ⟨_, op_min2 rfl rfl rfl rfl, nrmA rfl x⟩ | exact ⟨_, op_max2 rfl rfl rfl rfl, nrmA rfl x⟩ | exact ⟨_, op_append hT rfl rfl rfl rfl rfl rfl rfl rfl rfl rfl rfl (by intro y hy; (first | (simp only [List.mem_cons, List.not_mem_nil, or_false] at hy; subst hy; rfl) | (simp only [List.mem_cons, List.not_mem_nil, or_false] at hy; rcases hy with hy | hy <;> subst hy <;> rfl) | (obtain ⟨_, _, rfl⟩ := List.mem_map.1 hy; rfl) | (cases hy))) (by simp only [List.length_map, List.length_take, List.length_cons, List.length_nil, List.length_append]; omega) rfl, nrmA rfl x⟩ | exact ⟨_, op_mkmeth rfl rfl rfl, nrmA rfl x⟩ | exact ⟨_, op_build_arr hT rfl rfl rfl rfl rfl rfl rfl, nrmA rfl x⟩ | exact ⟨_, op_index_arr hT rfl rfl rfl rfl rfl rfl rfl rfl rfl (by omega) (by omega) rfl, nrmA rfl x⟩ | exact ⟨_, op_indexAddr_box hT rfl rfl rfl rfl rfl rfl rfl (by omega) (by omega), nrmA rfl x⟩ | exact ⟨_, op_neg rfl rfl rfl (by omega), nrmA rfl x⟩ | exact ⟨_, op_makeMap rfl rfl, nrmA rfl x⟩ | exact ⟨_, op_mapUpdate und192 und3 (.inl rfl) rfl rfl rfl rfl rfl, nrmA rfl x⟩ | exact ⟨_, op_mapUpdate und192 und3 (.inr rfl) rfl rfl rfl rfl rfl, nrmA rfl x⟩ | exact ⟨_, op_rangeMap und192 rfl rfl rfl, nrmA rfl x⟩ | exact ⟨_, op_entry rfl rfl rfl rfl, nrmA rfl x⟩ | exact ⟨_, op_and rfl rfl rfl rfl, nrmA rfl x⟩ | exact ⟨_, op_shl rfl rfl rfl rfl (by omega), nrmA rfl x⟩ | exact ⟨_, op_shr rfl rfl rfl rfl (by omega), nrmA rfl x⟩ | exact ⟨_, op_conv hT rfl rfl rfl rfl rfl rfl rfl, nrmA rfl x⟩ | exact ⟨_, op_bin (k := .u64) rfl rfl rfl rfl rfl, nrmA rfl x⟩)) : G := h y
theorem sty {G' G : Prop} (y : G') (h : G' → G := by intro x; refine AL_do2 rfl ?_; first | exact ⟨_, op_strcat rfl rfl rfl rfl (by omega), nrmA rfl x⟩ | exact ⟨_, op_len_str hT rfl rfl rfl rfl rfl, nrmA rfl x⟩ | exact ⟨_, op_quo rfl rfl rfl rfl (by decide), nrmA rfl x⟩ | exact ⟨_, op_rem rfl rfl rfl rfl (by decide), nrmA rfl x⟩ | exact ⟨_, op_index_arrP hT rfl rfl rfl rfl rfl rfl rfl rfl rfl (by omega) (by omega) rfl, nrmA rfl x⟩ | exact ⟨_, op_mkiface hT rfl rfl rfl rfl rfl, nrmA rfl x⟩) : G := h y
theorem sdq {G' G : Prop} (y : G') (h : G' → G := by intro x; first | exact DG_step hT rfl (nrmD rfl x) | exact DG_next (D_add rfl rfl rfl rfl rfl (by omega)) (nrmD rfl x) | exact DG_next (D_sub rfl rfl rfl rfl rfl (by omega)) (nrmD rfl x) | exact DG_next (D_len hT rfl rfl rfl rfl rfl rfl (len_map _ _)) (nrmD rfl x) | exact DG_next (D_indexAddr hT rfl rfl rfl rfl rfl rfl rfl rfl (by omega) (by assumption) rfl rfl) (nrmD rfl x) | exact DG_next (D_mul rfl rfl rfl rfl rfl (by assumption)) (nrmD rfl x) | exact DG_next (D_min2 rfl rfl rfl rfl rfl) (nrmD rfl x) | exact DG_next (D_max2 rfl rfl rfl rfl rfl) (nrmD rfl x) | exact DG_next (D_buildSlice hT rfl rfl rfl rfl rfl rfl rfl rfl rfl rfl) (nrmD rfl x) | exact DG_next (D_append hT rfl rfl rfl rfl rfl rfl rfl rfl rfl rfl rfl rfl (by intro y hy; (first | (simp only [List.mem_cons, List.not_mem_nil, or_false] at hy; subst hy; rfl) | (simp only [List.mem_cons, List.not_mem_nil, or_false] at hy; rcases hy with hy | hy <;> subst hy <;> rfl) | (obtain ⟨_, _, rfl⟩ := List.mem_map.1 hy; rfl) | (cases hy))) (by simp only [List.length_map, List.length_take, List.length_cons, List.length_nil, List.length_append]; omega) rfl) (nrmD rfl x) | exact DG_next (D_conv hT rfl rfl rfl rfl rfl rfl rfl rfl) (nrmD rfl x)) : G := h y
end Go.Abs
