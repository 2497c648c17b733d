/- An error as a number; 'same' compares them; LightActs answers whether acts are few and short. No conditions. -/
import Derived.Test.YtbpblokfiajpjaaActs
import Derived.StillTailTactics
import Derived.BigQuiet
import Derived.Deep.QuietTactic
import Derived.Lib.Hide
namespace Go.Proofs.Ytbpblokfiajpjaa
open Go.RowKit Go.SL

theorem ret_bool {a b : Bool} (h : a = b) : Ending.returned (.bool a) = .returned (.bool b) := by rw [h]
theorem ret_int {k : IntKind} {a b : Int} (h : a = b) : Ending.returned (.int k a) = .returned (.int k b) := by rw [h]

theorem ret_str {a b : ByteArray} (h : a = b) : Ending.returned (.string a) = .returned (.string b) := by rw [h]

/-- an error: 0 is none -/
def errV (e : Int) : Value := if e = 0 then .nilIface else .iface 121 (.int .i64 e)
theorem errV_0 : errV 0 = .nilIface := rfl
theorem errV_pos {e : Int} (h : 0 < e) : errV e = .iface 121 (.int .i64 e) := by unfold errV; rw [if_neg (by omega)]

set_option maxRecDepth 100000 in
set_option maxHeartbeats 400000 in
theorem same_nil (f : Int) (w : World) : Calls Try.prog 16 #[.nilIface, .int .i64 f] w fun e w' => e = .returned (.bool (f == 0)) ∧ w = w' := by
  go_enter Try.func16, Try.ntmps16
  go_wp2
  go_ret
  exact ⟨rfl, rfl⟩
theorem run_assert (n : Int) (w : World) : (Instr.typeAssert (.iface 121 (.int .i64 n)) 27 121 true).run Try.prog w = .ok (.tuple #[.int .i64 n, .bool true]) w := by
  simp [Instr.typeAssert, run_underlying Try.underlying121]

set_option maxRecDepth 100000 in
set_option maxHeartbeats 400000 in
theorem same_err (n f : Int) (w : World) : Calls Try.prog 16 #[.iface 121 (.int .i64 n), .int .i64 f] w fun e w' => e = .returned (.bool (decide (0 < f) && n == f)) ∧ w = w' := by
  have ha := run_assert n
  by_cases hf : 0 < f
  · go_enter Try.func16, Try.ntmps16
    go_wp2
    all_goals go_ret
    all_goals exact ⟨ret_bool (by rw [decide_eq_true hf]; simp), rfl⟩
  · go_enter Try.func16, Try.ntmps16
    go_wp2
    all_goals go_ret
    all_goals exact ⟨ret_bool (by rw [decide_eq_false (show ¬ 0 < f by omega)]; rfl), rfl⟩

/-- 'same(err, f)': are they one number? -/
theorem same_any (n f : Int) (w : World) (hn : 0 ≤ n) : Calls Try.prog 16 #[errV n, .int .i64 f] w fun e w' => e = .returned (.bool (decide (n = f))) ∧ w = w' := by
  by_cases h : n = 0
  · subst h
    exact (same_nil f w).mono fun e w' ⟨he, hw⟩ => ⟨by rw [he]; exact ret_bool (by rw [Bool.eq_iff_iff]; simp; omega), hw⟩
  · rw [errV_pos (by omega)]
    exact (same_err n f w).mono fun e w' ⟨he, hw⟩ => ⟨by rw [he]; exact ret_bool (by rw [Bool.eq_iff_iff]; simp; omega), hw⟩

def lightOne (a : Act) : Bool := decide (a.S.size ≤ 700) && decide (a.keep.length ≤ 300)
def light (l : List Act) (most : Int) : Bool := decide ((l.length : Int) ≤ most) && l.all lightOne

theorem keep_len {w : World} {v : Value} {ks : List Bool} (h : BoolsAt w v ks) : ∃ ao cap, v = .slice ao ks.length cap ∧ ks.length ≤ 9223372036854775807 := by
  obtain ⟨ao, b, off, cap, hv, h1, h2, _⟩ := h
  exact ⟨ao, cap, hv, by omega⟩

theorem all_getD {l : List Act} {i : Nat} (hi : i < l.length) : l.getD i actNone ∈ l := by
  simp [hi]

set_option maxRecDepth 100000 in
set_option maxHeartbeats 1000000 in
theorem light_any (v : Value) (l : List Act) (most : Int) (w : World) (hv : ActsAt w v l) :
    Calls Try.prog 14 #[v, .int .i64 most] w fun e w' => e = .returned (.bool (light l most)) ∧ w = w' := by
  obtain ⟨⟨ao, b, off, cap, rfl, hc1, hc2, hao, hat⟩, hok⟩ := hv
  by_cases hm : (l.length : Int) ≤ most
  · go_enter Try.func14, Try.ntmps14
    go_wp2
    go_loop [5] (fun i => ∃ k : Nat, k ≤ l.length ∧ i = .int .i64 k ∧ ∀ j, j < k → lightOne (l.getD j actNone) = true) (fun i => l.length - (intOf i).toNat)
    case atStart => exact ⟨0, Nat.zero_le _, rfl, fun j h => absurd h (by omega)⟩
    case round =>
      obtain ⟨k, hk, rfl, hj⟩ := hrel
      by_cases hlt : k < l.length
      · obtain rfl := hao (by omega)
        obtain ⟨_, _, _, _, _, c5, c6⟩ := hat k hlt
        have ok := hok _ (all_getD hlt)
        obtain ⟨ko, kc, hkv, hkl⟩ := keep_len ok.keep
        rw [hkv] at c6
        have hS := ok.S
        have HJ := Lib.hid hj
        have HO := Lib.hid hok
        clear hj hok hkv ok hat hao
        generalize hx : l.getD k actNone = x at *
        have HX := Lib.hid hx
        clear hx
        by_cases h1 : x.S.size ≤ 700
        · by_cases h2 : x.keep.length ≤ 300
          · go_wp2
            go_round
            case rel => exact ⟨k + 1, by omega, by go_num, fun j h => by
              by_cases e : j = k
              · subst e; rw [HX.out]; simp [lightOne, h1, h2]
              · exact HJ.out j (by omega)⟩
            case measure => simp [intOf]; omega
          · go_wp2
            go_ret
            refine ⟨ret_bool ?_, rfl⟩
            symm
            unfold light
            rw [Bool.and_eq_false_iff]
            refine .inr (List.all_eq_false.2 ⟨_, all_getD hlt, ?_⟩)
            rw [HX.out]; simp [lightOne, h2]
        · go_wp2
          go_ret
          refine ⟨ret_bool ?_, rfl⟩
          symm
          unfold light
          rw [Bool.and_eq_false_iff]
          refine .inr (List.all_eq_false.2 ⟨_, all_getD hlt, ?_⟩)
          rw [HX.out]; simp [lightOne, h1]
      · have HJ := Lib.hid hj
        clear hj
        go_wp2
        go_ret
        refine ⟨ret_bool ?_, rfl⟩
        unfold light
        rw [eq_comm, Bool.and_eq_true]
        refine ⟨by simpa using hm, List.all_eq_true.2 fun x hx => ?_⟩
        obtain ⟨j, hj, rfl⟩ := List.getElem_of_mem hx
        have := HJ.out j (by omega)
        simpa [hj] using this
  · go_enter Try.func14, Try.ntmps14
    go_wp2
    go_ret
    exact ⟨ret_bool (by rw [light, decide_eq_false (show ¬ (l.length : Int) ≤ most by omega)]; rfl), rfl⟩
end Go.Proofs.Ytbpblokfiajpjaa
