/- The bucket of the program and of the reference: contracts of their methods against one level; LightActs. No conditions. -/
import Derived.Test.YtbpblokfiajpjaaErrs
import Derived.StillTailTactics
import Derived.BigQuiet
import Derived.Deep.QuietTactic
namespace Go.Proofs.Ytbpblokfiajpjaa
open Go.RowKit Go.SL


def bucketAt (b : Nat) (r u l : Int) : HP := pts b (.cells #[.int .i64 r, .int .i64 u, .int .i64 l] 123 (0, 0))
def rbucketAt (b : Nat) (r u l : Int) : HP := pts b (.cells #[.int .i64 r, .int .i64 u, .int .i64 l] 33 (0, 0))

set_option maxRecDepth 100000 in
set_option maxHeartbeats 400000 in
theorem bucket_take (b : Nat) (r u l n : Int) (R : List HP) (w : World) (hl2 : l ≤ 1000) (H : own w (bucketAt b r u l :: R)) :
  Calls Try.prog 19 #[.pointer (some ⟨b, 0, none⟩), .int .i64 n] w fun e w' => e = .returned (.bool (decide (0 ≤ n ∧ n ≤ l))) ∧ Ext w w' ∧ own w' (bucketAt b r u (if 0 ≤ n ∧ n ≤ l then l - n else l) :: R) := by
  obtain ⟨c, f⟩ := own_cells 0 H rfl
  by_cases h : 0 ≤ n ∧ n ≤ l
  · simp only [h, and_self, decide_true, if_true]
    obtain ⟨h1, h2⟩ := h
    go_enter Try.func19, Try.ntmps19
    go_wp2
    go_ret
    exact ⟨rfl, (Ext.refl _).setCell _ _, own_set 0 H rfl⟩
  · simp only [h, decide_false, if_false]
    go_enter Try.func19, Try.ntmps19
    go_wp2
    all_goals go_ret
    all_goals exact ⟨rfl, Ext.refl _, H⟩

set_option maxRecDepth 100000 in
set_option maxHeartbeats 400000 in
theorem rbucket_take (b : Nat) (r u l n : Int) (R : List HP) (w : World) (hl2 : l ≤ 1000) (H : own w (rbucketAt b r u l :: R)) :
  Calls Try.prog 20 #[.pointer (some ⟨b, 0, none⟩), .int .i64 n] w fun e w' => e = .returned (.bool (decide (0 ≤ n ∧ n ≤ l))) ∧ Ext w w' ∧ own w' (rbucketAt b r u (if 0 ≤ n ∧ n ≤ l then l - n else l) :: R) := by
  obtain ⟨c, f⟩ := own_cells 0 H rfl
  by_cases h : 0 ≤ n ∧ n ≤ l
  · simp only [h, and_self, decide_true, if_true]
    obtain ⟨h1, h2⟩ := h
    go_enter Try.func20, Try.ntmps20
    go_wp2
    go_ret
    exact ⟨rfl, (Ext.refl _).setCell _ _, own_set 0 H rfl⟩
  · simp only [h, decide_false, if_false]
    go_enter Try.func20, Try.ntmps20
    go_wp2
    all_goals go_ret
    all_goals exact ⟨rfl, Ext.refl _, H⟩

theorem mul_le (n r : Int) (hn : 0 ≤ n) (hn2 : n ≤ 100000) (hr : 0 ≤ r) (hr2 : r ≤ 1000) : 0 ≤ n * r ∧ n * r ≤ 100000000 := by
  have := Int.mul_le_mul hn2 hr2 hr (by omega)
  exact ⟨Int.mul_nonneg hn hr, by omega⟩

set_option maxRecDepth 100000 in
set_option maxHeartbeats 400000 in
theorem bucket_tick (b : Nat) (r u l n : Int) (R : List HP) (w : World) (H : own w (bucketAt b r u l :: R)) (hl : 0 ≤ l) (hl2 : l ≤ 1000) (hr : 0 ≤ r) (hr2 : r ≤ 1000) (hu : u ≤ 1000) :
  Calls Try.prog 18 #[.pointer (some ⟨b, 0, none⟩), .int .i64 n] w fun e w' => e = .returned (errV (if 0 ≤ n ∧ n ≤ 100000 then 0 else 1)) ∧ Ext w w' ∧
    own w' (bucketAt b r u (if 0 ≤ n ∧ n ≤ 100000 then min u (l + n * r) else l) :: R) := by
  obtain ⟨c, f⟩ := own_cells 0 H rfl
  by_cases h : 0 ≤ n ∧ n ≤ 100000
  · simp only [h, and_self, if_true]
    obtain ⟨hn, hn2⟩ := h
    obtain ⟨hm, hm2⟩ := mul_le n r hn hn2 hr hr2
    have e1 : IntKind.i64.wrap (n * r) = n * r := IntWalk.i64_in _ (by omega)
    have e2 : IntKind.i64.wrap (l + n * r) = l + n * r := IntWalk.i64_in _ (by omega)
    by_cases hmin : l + n * r < u
    · have hmm : min u (l + n * r) = l + n * r := by omega
      simp only [hmm]
      go_enter Try.func18, Try.ntmps18
      go_wp2
      go_still_tail 17, (by kernel_rfl)
      change wpList _ _ _ _ _ w.drew
      go_wp2
      all_goals go_ret
      all_goals exact ⟨rfl, ((Ext.refl _).setCell _ _).drew, own_drew (own_set 0 H rfl)⟩
    · have hmm : min u (l + n * r) = u := by omega
      have hmin' : u ≤ l + n * r := by omega
      simp only [hmm]
      go_enter Try.func18, Try.ntmps18
      go_wp2
      go_still_tail 17, (by kernel_rfl)
      change wpList _ _ _ _ _ w.drew
      go_wp2
      all_goals go_ret
      all_goals exact ⟨rfl, ((Ext.refl _).setCell _ _).drew, own_drew (own_set 0 H rfl)⟩
  · simp only [h, if_false]
    go_enter Try.func18, Try.ntmps18
    go_wp2
    all_goals go_ret
    all_goals exact ⟨rfl, Ext.refl _, H⟩

set_option maxHeartbeats 400000 in
theorem bucket_level (b : Nat) (r u l : Int) (R : List HP) (w : World) (H : own w (bucketAt b r u l :: R)) :
  Calls Try.prog 21 #[.pointer (some ⟨b, 0, none⟩)] w fun e w' => e = .returned (.int .i64 l) ∧ w = w' := by
  obtain ⟨c, f⟩ := own_cells 0 H rfl
  go_enter Try.func21, Try.ntmps21
  go_wp2
  go_ret
  exact ⟨rfl, rfl⟩

def newOk (r u : Int) : Bool := decide (0 ≤ r ∧ r ≤ 1000 ∧ 0 ≤ u ∧ u ≤ 1000)

set_option maxHeartbeats 400000 in
theorem bucket_new_yes (r u : Int) (R : List HP) (w : World) (h : newOk r u = true) (H : own w R) :
  Calls Try.prog 15 #[.int .i64 r, .int .i64 u] w fun e w' => e = .returned (.tuple #[.pointer (some ⟨w.heap.size, 0, none⟩), .nilIface]) ∧ Ext w w' ∧ own w' (bucketAt w.heap.size r u u :: R) := by
  simp only [newOk, decide_eq_true_eq] at h
  obtain ⟨h1, h2, h3, h4⟩ := h
  go_enter Try.func15, Try.ntmps15
  go_wp2
  go_ret2
  exact ⟨rfl, (Ext.refl _).alloc _, own_alloc H _⟩

set_option maxHeartbeats 400000 in
theorem bucket_new_no (r u : Int) (w : World) (h : newOk r u = false) :
  Calls Try.prog 15 #[.int .i64 r, .int .i64 u] w fun e w' => e = .returned (.tuple #[.pointer none, errV 1]) ∧ w = w' := by
  simp only [newOk, decide_eq_false_iff_not] at h
  go_enter Try.func15, Try.ntmps15
  go_wp2
  all_goals go_ret2
  all_goals exact ⟨rfl, rfl⟩

end Go.Proofs.Ytbpblokfiajpjaa
