
/-
  Capabilities (capab): made of views, right, within others.
-/
import Derived.Test.YtikpkoeeinkecaaCapab
namespace Go.Proofs.Ytikpkoeeinkecaa
open Go Go.RowKit
set_option linter.unusedVariables false
set_option linter.unusedSimpArgs false

theorem null_any (n : BitVec 64) (w : World) : Calls Try.prog 19 #[.int .u64 (U n)] w fun r w' => r = .returned (.agg #[.bool false, .int .u64 0, .int .u64 (U n)]) ∧ Below w.heap.size w w' := by
  go_enter Try.func19, Try.ntmps19
  go_wp2_with fail
  refine bodyPost_ret (results_c [.bool false, .int .u64 0, .int .u64 (U n)] Try.results19 rfl ?_ Try.underlying28 rfl (by kernel_rfl)) rfl ?_
  · (first | (go_simp; done) | (go_simp; (simp [↓IntWalk.iteOmega]; done)) | (go_simp; intros; omega) | (go_simp; simp [↓IntWalk.iteOmega]; intros; omega))
  · exact ⟨rfl, by (repeat (first | with_reducible exact Below.refl _ _ | with_reducible assumption | with_reducible refine below_drewN ?_ _ | with_reducible refine Below.drew ?_ | with_reducible refine below_alloc ?_ _ | (with_reducible refine Below.setCell ?_ (by first | (simp; done) | omega | (simp; omega)) _) | with_reducible refine belows ?_ (by assumption)))⟩
def mkOk (sb st p y a : BitVec 64) : Bool := encX sb st && (decOk (encB sb st) (encT sb st) (encE sb st) a && ((decB (encB sb st) (encT sb st) (encE sb st) a == sb && decT (encB sb st) (encT sb st) (encE sb st) a == st) && (!decide (511 < U p) && !decide (4095 < U y))))
def mkM (sb st p y a : BitVec 64) : BitVec 64 := if mkOk sb st p y a = true then metaF (encB sb st) (encT sb st) (encE sb st) p y else 0#64
def mkA (sb st p y a : BitVec 64) : BitVec 64 := if mkOk sb st p y a = true then a else 0#64
theorem mk_none {sb st p y a : BitVec 64} (h : mkOk sb st p y a = false) : U (mkM sb st p y a) = 0 ∧ U (mkA sb st p y a) = 0 := by
  unfold mkM mkA; rw [h]; exact ⟨rfl, rfl⟩
set_option maxHeartbeats 4000000 in
set_option maxRecDepth 100000 in
theorem make_0 (sb st p y a : BitVec 64) (hx : (encX sb st) = false) (w : World) : Calls Try.prog 9 #[.agg #[.int .u64 (U sb), .int .u64 (U st), .int .u64 (U p), .int .u64 (U y)], .int .u64 (U a)] w fun r w' => r = .returned (.tuple #[.agg #[.bool false, .int .u64 0, .int .u64 0], .bool false]) ∧ Below w.heap.size w w' := by
  have ce : ∀ w : World, Calls Try.prog 18 #[.agg #[.int .u64 (U sb), .int .u64 (U st)]] w fun r w' => r = .returned (.tuple #[.agg #[.int .u64 (U (encB sb st)), .int .u64 (U (encT sb st)), .int .u64 (U (encE sb st))], .bool false]) ∧ Below w.heap.size w w' := fun w => (encode_any sb st w).mono fun _ _ g => ⟨by rw [g.1, hx], g.2⟩
  have cd : ∀ w : World, Calls Try.prog 26 #[.agg #[.int .u64 (U (encB sb st)), .int .u64 (U (encT sb st)), .int .u64 (U (encE sb st))], .int .u64 (U a)] w fun r w' => r = .returned (.tuple #[.agg #[.int .u64 (U (decB (encB sb st) (encT sb st) (encE sb st) a)), .int .u64 (U (decT (encB sb st) (encT sb st) (encE sb st) a))], .bool (decOk (encB sb st) (encT sb st) (encE sb st) a)]) ∧ Below w.heap.size w w' := fun w => (decode_any _ _ _ a w).mono fun _ _ g => ⟨by rw [g.1], g.2⟩
  have cm : ∀ w : World, Calls Try.prog 27 #[.agg #[.int .u64 (U (encB sb st)), .int .u64 (U (encT sb st)), .int .u64 (U (encE sb st))], .agg #[.int .u64 (U sb), .int .u64 (U st), .int .u64 (U p), .int .u64 (U y)]] w fun r w' => r = .returned (.int .u64 (U (metaF (encB sb st) (encT sb st) (encE sb st) p y))) ∧ Below w.heap.size w w' := fun w => meta_any _ _ _ sb st p y w
  clear hx
  go_enter Try.func9, Try.ntmps9
  go_wp2_with (first | (go_at_call 18; (with_reducible refine (ce _).mono ?_); rintro e w' ⟨rfl, hbl⟩; obtain ⟨hcw, hfw, hsw⟩ := below_ifs hbl; (try simp only [World.size_alloc, World.size_setCell, World.size_drew, size_drewN_] at hcw hfw hsw)) | (go_at_call 26; (with_reducible refine (cd _).mono ?_); rintro e w' ⟨rfl, hbl⟩; obtain ⟨hcw, hfw, hsw⟩ := below_ifs hbl; (try simp only [World.size_alloc, World.size_setCell, World.size_drew, size_drewN_] at hcw hfw hsw)) | (go_at_call 27; (with_reducible refine (cm _).mono ?_); rintro e w' ⟨rfl, hbl⟩; obtain ⟨hcw, hfw, hsw⟩ := below_ifs hbl; (try simp only [World.size_alloc, World.size_setCell, World.size_drew, size_drewN_] at hcw hfw hsw)))
  refine bodyPost_ret (results_ct [.bool false, .int .u64 0, .int .u64 0] (.bool false) Try.results9 rfl rfl ?_ Try.underlying28 rfl (by kernel_rfl)) rfl ?_
  · (first | (go_simp; done) | (go_simp; (simp [↓IntWalk.iteOmega]; done)) | (go_simp; intros; omega) | (go_simp; simp [↓IntWalk.iteOmega]; intros; omega))
  · exact ⟨rfl, by (repeat (first | with_reducible exact Below.refl _ _ | with_reducible assumption | with_reducible refine below_drewN ?_ _ | with_reducible refine Below.drew ?_ | with_reducible refine below_alloc ?_ _ | (with_reducible refine Below.setCell ?_ (by first | (simp; done) | omega | (simp; omega)) _) | with_reducible refine belows ?_ (by assumption)))⟩
set_option maxHeartbeats 4000000 in
set_option maxRecDepth 100000 in
theorem make_1 (sb st p y a : BitVec 64) (hx : (encX sb st) = true) (hd : (decOk (encB sb st) (encT sb st) (encE sb st) a) = false) (w : World) : Calls Try.prog 9 #[.agg #[.int .u64 (U sb), .int .u64 (U st), .int .u64 (U p), .int .u64 (U y)], .int .u64 (U a)] w fun r w' => r = .returned (.tuple #[.agg #[.bool false, .int .u64 0, .int .u64 0], .bool false]) ∧ Below w.heap.size w w' := by
  have ce : ∀ w : World, Calls Try.prog 18 #[.agg #[.int .u64 (U sb), .int .u64 (U st)]] w fun r w' => r = .returned (.tuple #[.agg #[.int .u64 (U (encB sb st)), .int .u64 (U (encT sb st)), .int .u64 (U (encE sb st))], .bool true]) ∧ Below w.heap.size w w' := fun w => (encode_any sb st w).mono fun _ _ g => ⟨by rw [g.1, hx], g.2⟩
  have cd : ∀ w : World, Calls Try.prog 26 #[.agg #[.int .u64 (U (encB sb st)), .int .u64 (U (encT sb st)), .int .u64 (U (encE sb st))], .int .u64 (U a)] w fun r w' => r = .returned (.tuple #[.agg #[.int .u64 (U (decB (encB sb st) (encT sb st) (encE sb st) a)), .int .u64 (U (decT (encB sb st) (encT sb st) (encE sb st) a))], .bool false]) ∧ Below w.heap.size w w' := fun w => (decode_any _ _ _ a w).mono fun _ _ g => ⟨by rw [g.1, hd], g.2⟩
  have cm : ∀ w : World, Calls Try.prog 27 #[.agg #[.int .u64 (U (encB sb st)), .int .u64 (U (encT sb st)), .int .u64 (U (encE sb st))], .agg #[.int .u64 (U sb), .int .u64 (U st), .int .u64 (U p), .int .u64 (U y)]] w fun r w' => r = .returned (.int .u64 (U (metaF (encB sb st) (encT sb st) (encE sb st) p y))) ∧ Below w.heap.size w w' := fun w => meta_any _ _ _ sb st p y w
  clear hx hd
  go_enter Try.func9, Try.ntmps9
  go_wp2_with (first | (go_at_call 18; (with_reducible refine (ce _).mono ?_); rintro e w' ⟨rfl, hbl⟩; obtain ⟨hcw, hfw, hsw⟩ := below_ifs hbl; (try simp only [World.size_alloc, World.size_setCell, World.size_drew, size_drewN_] at hcw hfw hsw)) | (go_at_call 26; (with_reducible refine (cd _).mono ?_); rintro e w' ⟨rfl, hbl⟩; obtain ⟨hcw, hfw, hsw⟩ := below_ifs hbl; (try simp only [World.size_alloc, World.size_setCell, World.size_drew, size_drewN_] at hcw hfw hsw)) | (go_at_call 27; (with_reducible refine (cm _).mono ?_); rintro e w' ⟨rfl, hbl⟩; obtain ⟨hcw, hfw, hsw⟩ := below_ifs hbl; (try simp only [World.size_alloc, World.size_setCell, World.size_drew, size_drewN_] at hcw hfw hsw)))
  refine bodyPost_ret (results_ct [.bool false, .int .u64 0, .int .u64 0] (.bool false) Try.results9 rfl rfl ?_ Try.underlying28 rfl (by kernel_rfl)) rfl ?_
  · (first | (go_simp; done) | (go_simp; (simp [↓IntWalk.iteOmega]; done)) | (go_simp; intros; omega) | (go_simp; simp [↓IntWalk.iteOmega]; intros; omega))
  · exact ⟨rfl, by (repeat (first | with_reducible exact Below.refl _ _ | with_reducible assumption | with_reducible refine below_drewN ?_ _ | with_reducible refine Below.drew ?_ | with_reducible refine below_alloc ?_ _ | (with_reducible refine Below.setCell ?_ (by first | (simp; done) | omega | (simp; omega)) _) | with_reducible refine belows ?_ (by assumption)))⟩
set_option maxHeartbeats 4000000 in
set_option maxRecDepth 100000 in
theorem make_2 (sb st p y a : BitVec 64) (hx : (encX sb st) = true) (hd : (decOk (encB sb st) (encT sb st) (encE sb st) a) = true) (hs : ((decB (encB sb st) (encT sb st) (encE sb st) a == sb && decT (encB sb st) (encT sb st) (encE sb st) a == st)) = false) (w : World) : Calls Try.prog 9 #[.agg #[.int .u64 (U sb), .int .u64 (U st), .int .u64 (U p), .int .u64 (U y)], .int .u64 (U a)] w fun r w' => r = .returned (.tuple #[.agg #[.bool false, .int .u64 0, .int .u64 0], .bool false]) ∧ Below w.heap.size w w' := by
  have ce : ∀ w : World, Calls Try.prog 18 #[.agg #[.int .u64 (U sb), .int .u64 (U st)]] w fun r w' => r = .returned (.tuple #[.agg #[.int .u64 (U (encB sb st)), .int .u64 (U (encT sb st)), .int .u64 (U (encE sb st))], .bool true]) ∧ Below w.heap.size w w' := fun w => (encode_any sb st w).mono fun _ _ g => ⟨by rw [g.1, hx], g.2⟩
  have cd : ∀ w : World, Calls Try.prog 26 #[.agg #[.int .u64 (U (encB sb st)), .int .u64 (U (encT sb st)), .int .u64 (U (encE sb st))], .int .u64 (U a)] w fun r w' => r = .returned (.tuple #[.agg #[.int .u64 (U (decB (encB sb st) (encT sb st) (encE sb st) a)), .int .u64 (U (decT (encB sb st) (encT sb st) (encE sb st) a))], .bool true]) ∧ Below w.heap.size w w' := fun w => (decode_any _ _ _ a w).mono fun _ _ g => ⟨by rw [g.1, hd], g.2⟩
  have cm : ∀ w : World, Calls Try.prog 27 #[.agg #[.int .u64 (U (encB sb st)), .int .u64 (U (encT sb st)), .int .u64 (U (encE sb st))], .agg #[.int .u64 (U sb), .int .u64 (U st), .int .u64 (U p), .int .u64 (U y)]] w fun r w' => r = .returned (.int .u64 (U (metaF (encB sb st) (encT sb st) (encE sb st) p y))) ∧ Below w.heap.size w w' := fun w => meta_any _ _ _ sb st p y w
  clear hx hd
  go_enter Try.func9, Try.ntmps9
  go_wp2_with (first | (go_at_call 18; (with_reducible refine (ce _).mono ?_); rintro e w' ⟨rfl, hbl⟩; obtain ⟨hcw, hfw, hsw⟩ := below_ifs hbl; (try simp only [World.size_alloc, World.size_setCell, World.size_drew, size_drewN_] at hcw hfw hsw)) | (go_at_call 26; (with_reducible refine (cd _).mono ?_); rintro e w' ⟨rfl, hbl⟩; obtain ⟨hcw, hfw, hsw⟩ := below_ifs hbl; (try simp only [World.size_alloc, World.size_setCell, World.size_drew, size_drewN_] at hcw hfw hsw)) | (go_at_call 27; (with_reducible refine (cm _).mono ?_); rintro e w' ⟨rfl, hbl⟩; obtain ⟨hcw, hfw, hsw⟩ := below_ifs hbl; (try simp only [World.size_alloc, World.size_setCell, World.size_drew, size_drewN_] at hcw hfw hsw)))
  refine bodyPost_ret (results_ct [.bool false, .int .u64 0, .int .u64 0] (.bool false) Try.results9 rfl rfl ?_ Try.underlying28 rfl (by kernel_rfl)) rfl ?_
  · (first | (go_simp; done) | (go_simp; (simp [↓IntWalk.iteOmega]; done)) | (go_simp; intros; omega) | (go_simp; simp [↓IntWalk.iteOmega]; intros; omega))
  · exact ⟨rfl, by (repeat (first | with_reducible exact Below.refl _ _ | with_reducible assumption | with_reducible refine below_drewN ?_ _ | with_reducible refine Below.drew ?_ | with_reducible refine below_alloc ?_ _ | (with_reducible refine Below.setCell ?_ (by first | (simp; done) | omega | (simp; omega)) _) | with_reducible refine belows ?_ (by assumption)))⟩
set_option maxHeartbeats 4000000 in
set_option maxRecDepth 100000 in
theorem make_3 (sb st p y a : BitVec 64) (hx : (encX sb st) = true) (hd : (decOk (encB sb st) (encT sb st) (encE sb st) a) = true) (hs : ((decB (encB sb st) (encT sb st) (encE sb st) a == sb && decT (encB sb st) (encT sb st) (encE sb st) a == st)) = true) (hp : (decide (511 < U p)) = true) (w : World) : Calls Try.prog 9 #[.agg #[.int .u64 (U sb), .int .u64 (U st), .int .u64 (U p), .int .u64 (U y)], .int .u64 (U a)] w fun r w' => r = .returned (.tuple #[.agg #[.bool false, .int .u64 0, .int .u64 0], .bool false]) ∧ Below w.heap.size w w' := by
  have ce : ∀ w : World, Calls Try.prog 18 #[.agg #[.int .u64 (U sb), .int .u64 (U st)]] w fun r w' => r = .returned (.tuple #[.agg #[.int .u64 (U (encB sb st)), .int .u64 (U (encT sb st)), .int .u64 (U (encE sb st))], .bool true]) ∧ Below w.heap.size w w' := fun w => (encode_any sb st w).mono fun _ _ g => ⟨by rw [g.1, hx], g.2⟩
  have cd : ∀ w : World, Calls Try.prog 26 #[.agg #[.int .u64 (U (encB sb st)), .int .u64 (U (encT sb st)), .int .u64 (U (encE sb st))], .int .u64 (U a)] w fun r w' => r = .returned (.tuple #[.agg #[.int .u64 (U (decB (encB sb st) (encT sb st) (encE sb st) a)), .int .u64 (U (decT (encB sb st) (encT sb st) (encE sb st) a))], .bool true]) ∧ Below w.heap.size w w' := fun w => (decode_any _ _ _ a w).mono fun _ _ g => ⟨by rw [g.1, hd], g.2⟩
  have cm : ∀ w : World, Calls Try.prog 27 #[.agg #[.int .u64 (U (encB sb st)), .int .u64 (U (encT sb st)), .int .u64 (U (encE sb st))], .agg #[.int .u64 (U sb), .int .u64 (U st), .int .u64 (U p), .int .u64 (U y)]] w fun r w' => r = .returned (.int .u64 (U (metaF (encB sb st) (encT sb st) (encE sb st) p y))) ∧ Below w.heap.size w w' := fun w => meta_any _ _ _ sb st p y w
  clear hx hd
  go_enter Try.func9, Try.ntmps9
  go_wp2_with (first | (go_at_call 18; (with_reducible refine (ce _).mono ?_); rintro e w' ⟨rfl, hbl⟩; obtain ⟨hcw, hfw, hsw⟩ := below_ifs hbl; (try simp only [World.size_alloc, World.size_setCell, World.size_drew, size_drewN_] at hcw hfw hsw)) | (go_at_call 26; (with_reducible refine (cd _).mono ?_); rintro e w' ⟨rfl, hbl⟩; obtain ⟨hcw, hfw, hsw⟩ := below_ifs hbl; (try simp only [World.size_alloc, World.size_setCell, World.size_drew, size_drewN_] at hcw hfw hsw)) | (go_at_call 27; (with_reducible refine (cm _).mono ?_); rintro e w' ⟨rfl, hbl⟩; obtain ⟨hcw, hfw, hsw⟩ := below_ifs hbl; (try simp only [World.size_alloc, World.size_setCell, World.size_drew, size_drewN_] at hcw hfw hsw)))
  refine bodyPost_ret (results_ct [.bool false, .int .u64 0, .int .u64 0] (.bool false) Try.results9 rfl rfl ?_ Try.underlying28 rfl (by kernel_rfl)) rfl ?_
  · (first | (go_simp; done) | (go_simp; (simp [↓IntWalk.iteOmega]; done)) | (go_simp; intros; omega) | (go_simp; simp [↓IntWalk.iteOmega]; intros; omega))
  · exact ⟨rfl, by (repeat (first | with_reducible exact Below.refl _ _ | with_reducible assumption | with_reducible refine below_drewN ?_ _ | with_reducible refine Below.drew ?_ | with_reducible refine below_alloc ?_ _ | (with_reducible refine Below.setCell ?_ (by first | (simp; done) | omega | (simp; omega)) _) | with_reducible refine belows ?_ (by assumption)))⟩
set_option maxHeartbeats 4000000 in
set_option maxRecDepth 100000 in
theorem make_4 (sb st p y a : BitVec 64) (hx : (encX sb st) = true) (hd : (decOk (encB sb st) (encT sb st) (encE sb st) a) = true) (hs : ((decB (encB sb st) (encT sb st) (encE sb st) a == sb && decT (encB sb st) (encT sb st) (encE sb st) a == st)) = true) (hp : (decide (511 < U p)) = false) (hy : (decide (4095 < U y)) = true) (w : World) : Calls Try.prog 9 #[.agg #[.int .u64 (U sb), .int .u64 (U st), .int .u64 (U p), .int .u64 (U y)], .int .u64 (U a)] w fun r w' => r = .returned (.tuple #[.agg #[.bool false, .int .u64 0, .int .u64 0], .bool false]) ∧ Below w.heap.size w w' := by
  have ce : ∀ w : World, Calls Try.prog 18 #[.agg #[.int .u64 (U sb), .int .u64 (U st)]] w fun r w' => r = .returned (.tuple #[.agg #[.int .u64 (U (encB sb st)), .int .u64 (U (encT sb st)), .int .u64 (U (encE sb st))], .bool true]) ∧ Below w.heap.size w w' := fun w => (encode_any sb st w).mono fun _ _ g => ⟨by rw [g.1, hx], g.2⟩
  have cd : ∀ w : World, Calls Try.prog 26 #[.agg #[.int .u64 (U (encB sb st)), .int .u64 (U (encT sb st)), .int .u64 (U (encE sb st))], .int .u64 (U a)] w fun r w' => r = .returned (.tuple #[.agg #[.int .u64 (U (decB (encB sb st) (encT sb st) (encE sb st) a)), .int .u64 (U (decT (encB sb st) (encT sb st) (encE sb st) a))], .bool true]) ∧ Below w.heap.size w w' := fun w => (decode_any _ _ _ a w).mono fun _ _ g => ⟨by rw [g.1, hd], g.2⟩
  have cm : ∀ w : World, Calls Try.prog 27 #[.agg #[.int .u64 (U (encB sb st)), .int .u64 (U (encT sb st)), .int .u64 (U (encE sb st))], .agg #[.int .u64 (U sb), .int .u64 (U st), .int .u64 (U p), .int .u64 (U y)]] w fun r w' => r = .returned (.int .u64 (U (metaF (encB sb st) (encT sb st) (encE sb st) p y))) ∧ Below w.heap.size w w' := fun w => meta_any _ _ _ sb st p y w
  clear hx hd
  go_enter Try.func9, Try.ntmps9
  go_wp2_with (first | (go_at_call 18; (with_reducible refine (ce _).mono ?_); rintro e w' ⟨rfl, hbl⟩; obtain ⟨hcw, hfw, hsw⟩ := below_ifs hbl; (try simp only [World.size_alloc, World.size_setCell, World.size_drew, size_drewN_] at hcw hfw hsw)) | (go_at_call 26; (with_reducible refine (cd _).mono ?_); rintro e w' ⟨rfl, hbl⟩; obtain ⟨hcw, hfw, hsw⟩ := below_ifs hbl; (try simp only [World.size_alloc, World.size_setCell, World.size_drew, size_drewN_] at hcw hfw hsw)) | (go_at_call 27; (with_reducible refine (cm _).mono ?_); rintro e w' ⟨rfl, hbl⟩; obtain ⟨hcw, hfw, hsw⟩ := below_ifs hbl; (try simp only [World.size_alloc, World.size_setCell, World.size_drew, size_drewN_] at hcw hfw hsw)))
  refine bodyPost_ret (results_ct [.bool false, .int .u64 0, .int .u64 0] (.bool false) Try.results9 rfl rfl ?_ Try.underlying28 rfl (by kernel_rfl)) rfl ?_
  · (first | (go_simp; done) | (go_simp; (simp [↓IntWalk.iteOmega]; done)) | (go_simp; intros; omega) | (go_simp; simp [↓IntWalk.iteOmega]; intros; omega))
  · exact ⟨rfl, by (repeat (first | with_reducible exact Below.refl _ _ | with_reducible assumption | with_reducible refine below_drewN ?_ _ | with_reducible refine Below.drew ?_ | with_reducible refine below_alloc ?_ _ | (with_reducible refine Below.setCell ?_ (by first | (simp; done) | omega | (simp; omega)) _) | with_reducible refine belows ?_ (by assumption)))⟩
set_option maxHeartbeats 4000000 in
set_option maxRecDepth 100000 in
theorem make_5 (sb st p y a : BitVec 64) (hx : (encX sb st) = true) (hd : (decOk (encB sb st) (encT sb st) (encE sb st) a) = true) (hs : ((decB (encB sb st) (encT sb st) (encE sb st) a == sb && decT (encB sb st) (encT sb st) (encE sb st) a == st)) = true) (hp : (decide (511 < U p)) = false) (hy : (decide (4095 < U y)) = false) (w : World) : Calls Try.prog 9 #[.agg #[.int .u64 (U sb), .int .u64 (U st), .int .u64 (U p), .int .u64 (U y)], .int .u64 (U a)] w fun r w' => r = .returned (.tuple #[.agg #[.bool false, .int .u64 (U (metaF (encB sb st) (encT sb st) (encE sb st) p y)), .int .u64 (U a)], .bool true]) ∧ Below w.heap.size w w' := by
  have ce : ∀ w : World, Calls Try.prog 18 #[.agg #[.int .u64 (U sb), .int .u64 (U st)]] w fun r w' => r = .returned (.tuple #[.agg #[.int .u64 (U (encB sb st)), .int .u64 (U (encT sb st)), .int .u64 (U (encE sb st))], .bool true]) ∧ Below w.heap.size w w' := fun w => (encode_any sb st w).mono fun _ _ g => ⟨by rw [g.1, hx], g.2⟩
  have cd : ∀ w : World, Calls Try.prog 26 #[.agg #[.int .u64 (U (encB sb st)), .int .u64 (U (encT sb st)), .int .u64 (U (encE sb st))], .int .u64 (U a)] w fun r w' => r = .returned (.tuple #[.agg #[.int .u64 (U (decB (encB sb st) (encT sb st) (encE sb st) a)), .int .u64 (U (decT (encB sb st) (encT sb st) (encE sb st) a))], .bool true]) ∧ Below w.heap.size w w' := fun w => (decode_any _ _ _ a w).mono fun _ _ g => ⟨by rw [g.1, hd], g.2⟩
  have cm : ∀ w : World, Calls Try.prog 27 #[.agg #[.int .u64 (U (encB sb st)), .int .u64 (U (encT sb st)), .int .u64 (U (encE sb st))], .agg #[.int .u64 (U sb), .int .u64 (U st), .int .u64 (U p), .int .u64 (U y)]] w fun r w' => r = .returned (.int .u64 (U (metaF (encB sb st) (encT sb st) (encE sb st) p y))) ∧ Below w.heap.size w w' := fun w => meta_any _ _ _ sb st p y w
  clear hx hd
  go_enter Try.func9, Try.ntmps9
  go_wp2_with (first | (go_at_call 18; (with_reducible refine (ce _).mono ?_); rintro e w' ⟨rfl, hbl⟩; obtain ⟨hcw, hfw, hsw⟩ := below_ifs hbl; (try simp only [World.size_alloc, World.size_setCell, World.size_drew, size_drewN_] at hcw hfw hsw)) | (go_at_call 26; (with_reducible refine (cd _).mono ?_); rintro e w' ⟨rfl, hbl⟩; obtain ⟨hcw, hfw, hsw⟩ := below_ifs hbl; (try simp only [World.size_alloc, World.size_setCell, World.size_drew, size_drewN_] at hcw hfw hsw)) | (go_at_call 27; (with_reducible refine (cm _).mono ?_); rintro e w' ⟨rfl, hbl⟩; obtain ⟨hcw, hfw, hsw⟩ := below_ifs hbl; (try simp only [World.size_alloc, World.size_setCell, World.size_drew, size_drewN_] at hcw hfw hsw)))
  refine bodyPost_ret (results_ct [.bool false, .int .u64 (U (metaF (encB sb st) (encT sb st) (encE sb st) p y)), .int .u64 (U a)] (.bool true) Try.results9 rfl rfl ?_ Try.underlying28 rfl (by kernel_rfl)) rfl ?_
  · (first | (go_simp; done) | (go_simp; (simp [↓IntWalk.iteOmega]; done)) | (go_simp; intros; omega) | (go_simp; simp [↓IntWalk.iteOmega]; intros; omega))
  · exact ⟨rfl, by (repeat (first | with_reducible exact Below.refl _ _ | with_reducible assumption | with_reducible refine below_drewN ?_ _ | with_reducible refine Below.drew ?_ | with_reducible refine below_alloc ?_ _ | (with_reducible refine Below.setCell ?_ (by first | (simp; done) | omega | (simp; omega)) _) | with_reducible refine belows ?_ (by assumption)))⟩
theorem make_any (sb st p y a : BitVec 64) (w : World) : Calls Try.prog 9 #[.agg #[.int .u64 (U sb), .int .u64 (U st), .int .u64 (U p), .int .u64 (U y)], .int .u64 (U a)] w fun r w' => r = .returned (.tuple #[.agg #[.bool false, .int .u64 (U (mkM sb st p y a)), .int .u64 (U (mkA sb st p y a))], .bool (mkOk sb st p y a)]) ∧ Below w.heap.size w w' := by
  cases hx : (encX sb st)
  · have g : mkOk sb st p y a = false := by unfold mkOk; rw [hx]; simp
    obtain ⟨g1, g2⟩ := mk_none g
    rw [g1, g2, g]
    exact make_0 sb st p y a hx w
  · cases hd : (decOk (encB sb st) (encT sb st) (encE sb st) a)
    · have g : mkOk sb st p y a = false := by unfold mkOk; rw [hx, hd]; simp
      obtain ⟨g1, g2⟩ := mk_none g
      rw [g1, g2, g]
      exact make_1 sb st p y a hx hd w
    · cases hs : ((decB (encB sb st) (encT sb st) (encE sb st) a == sb && decT (encB sb st) (encT sb st) (encE sb st) a == st))
      · have g : mkOk sb st p y a = false := by unfold mkOk; rw [hx, hd, hs]; simp
        obtain ⟨g1, g2⟩ := mk_none g
        rw [g1, g2, g]
        exact make_2 sb st p y a hx hd hs w
      · cases hp : (decide (511 < U p))
        · cases hy : (decide (4095 < U y))
          · have g : mkOk sb st p y a = true := by unfold mkOk; rw [hx, hd, hs, hp, hy]; rfl
            have g1 : mkM sb st p y a = metaF (encB sb st) (encT sb st) (encE sb st) p y := by unfold mkM; rw [if_pos g]
            have g2 : mkA sb st p y a = a := by unfold mkA; rw [if_pos g]
            rw [g1, g2, g]
            exact make_5 sb st p y a hx hd hs hp hy w
          · have g : mkOk sb st p y a = false := by unfold mkOk; rw [hx, hd, hs, hp, hy]; simp
            obtain ⟨g1, g2⟩ := mk_none g
            rw [g1, g2, g]
            exact make_4 sb st p y a hx hd hs hp hy w
        · have g : mkOk sb st p y a = false := by unfold mkOk; rw [hx, hd, hs, hp]; simp
          obtain ⟨g1, g2⟩ := mk_none g
          rw [g1, g2, g]
          exact make_3 sb st p y a hx hd hs hp w
theorem pwithin_any (p q : BitVec 64) (w : World) : Calls Try.prog 32 #[.int .u64 (U p), .int .u64 (U q)] w fun r w' => r = .returned (.bool (p &&& ~~~ q == 0#64)) ∧ w = w' := by
  go_enter Try.func32, Try.ntmps32
  go_wp2_with fail
  go_ret
  exact ⟨rfl, rfl⟩
def rtF (m a : BitVec 64) : Bool := lkOk m a && (metaF (mB m) (mT m) (mE m) (mP m) (mY m) == m)
theorem right_any (g : Bool) (m a : BitVec 64) (w : World) : Calls Try.prog 16 #[.agg #[.bool g, .int .u64 (U m), .int .u64 (U a)]] w fun r w' => r = .returned (.bool (rtF m a)) ∧ Below w.heap.size w w' := by
  unfold rtF
  cases h : lkOk m a
  · have cl : ∀ w : World, Calls Try.prog 15 #[.agg #[.bool g, .int .u64 (U m), .int .u64 (U a)]] w fun r w' => r = .returned (.tuple #[.agg #[.int .u64 (U (lkB m a)), .int .u64 (U (lkT m a)), .int .u64 (U (mP m)), .int .u64 (U (mY m))], .bool false]) ∧ Below w.heap.size w w' := fun w => (look_any g m a w).mono fun _ _ q => ⟨by rw [q.1, h], q.2⟩
    go_enter Try.func16, Try.ntmps16
    go_wp2_with (first | (go_at_call 15; (with_reducible refine (cl _).mono ?_); rintro e w' ⟨rfl, hbl⟩; obtain ⟨hcw, hfw, hsw⟩ := below_ifs hbl; (try simp only [World.size_alloc, World.size_setCell, World.size_drew, size_drewN_] at hcw hfw hsw)))
    refine wp_region_below (by kernel_rfl) (by kernel_rfl) (fun hcr hfr => ?_)
    (try simp only [World.size_alloc, World.size_setCell, World.size_drew, size_drewN_] at hcr hfr)
    repeat (go_big_quiet_step ((first | (go_at_call 30; first | with_reducible exact Calls.regrown_of (ofM_any _ _) | with_reducible exact regrown_k (ofM_any _ _) | with_reducible exact regrown_1 (ofM_any _ _) | with_reducible exact regrown_a (ofM_any _ _)) | (go_at_call 27; first | with_reducible exact Calls.regrown_of (meta_any _ _ _ _ _ _ _ _) | with_reducible exact regrown_k (meta_any _ _ _ _ _ _ _ _) | with_reducible exact regrown_1 (meta_any _ _ _ _ _ _ _ _) | with_reducible exact regrown_a (meta_any _ _ _ _ _ _ _ _)))))
    refine wpQuiet_nil ?_
    intro w' hbl
    clear hcr hfr
    obtain ⟨hcw, hfw, hsw⟩ := below_ifs hbl; (try simp only [World.size_alloc, World.size_setCell, World.size_drew, size_drewN_] at hcw hfw hsw)
    go_wp2_with fail
    go_ret
    exact ⟨rfl, by (repeat (first | with_reducible exact Below.refl _ _ | with_reducible assumption | with_reducible refine below_drewN ?_ _ | with_reducible refine Below.drew ?_ | with_reducible refine below_alloc ?_ _ | (with_reducible refine Below.setCell ?_ (by first | (simp; done) | omega | (simp; omega)) _) | with_reducible refine belows ?_ (by assumption)))⟩
  · have cl : ∀ w : World, Calls Try.prog 15 #[.agg #[.bool g, .int .u64 (U m), .int .u64 (U a)]] w fun r w' => r = .returned (.tuple #[.agg #[.int .u64 (U (lkB m a)), .int .u64 (U (lkT m a)), .int .u64 (U (mP m)), .int .u64 (U (mY m))], .bool true]) ∧ Below w.heap.size w w' := fun w => (look_any g m a w).mono fun _ _ q => ⟨by rw [q.1, h], q.2⟩
    go_enter Try.func16, Try.ntmps16
    go_wp2_with (first | (go_at_call 15; (with_reducible refine (cl _).mono ?_); rintro e w' ⟨rfl, hbl⟩; obtain ⟨hcw, hfw, hsw⟩ := below_ifs hbl; (try simp only [World.size_alloc, World.size_setCell, World.size_drew, size_drewN_] at hcw hfw hsw)))
    refine wp_region_below (by kernel_rfl) (by kernel_rfl) (fun hcr hfr => ?_)
    (try simp only [World.size_alloc, World.size_setCell, World.size_drew, size_drewN_] at hcr hfr)
    repeat (go_big_quiet_step ((first | (go_at_call 30; first | with_reducible exact Calls.regrown_of (ofM_any _ _) | with_reducible exact regrown_k (ofM_any _ _) | with_reducible exact regrown_1 (ofM_any _ _) | with_reducible exact regrown_a (ofM_any _ _)) | (go_at_call 27; first | with_reducible exact Calls.regrown_of (meta_any _ _ _ _ _ _ _ _) | with_reducible exact regrown_k (meta_any _ _ _ _ _ _ _ _) | with_reducible exact regrown_1 (meta_any _ _ _ _ _ _ _ _) | with_reducible exact regrown_a (meta_any _ _ _ _ _ _ _ _)))))
    refine wpQuiet_nil ?_
    intro w' hbl
    clear hcr hfr
    obtain ⟨hcw, hfw, hsw⟩ := below_ifs hbl; (try simp only [World.size_alloc, World.size_setCell, World.size_drew, size_drewN_] at hcw hfw hsw)
    go_wp2_with fail
    go_ret
    exact ⟨ret_bool (by simp), by (repeat (first | with_reducible exact Below.refl _ _ | with_reducible assumption | with_reducible refine below_drewN ?_ _ | with_reducible refine Below.drew ?_ | with_reducible refine below_alloc ?_ _ | (with_reducible refine Below.setCell ?_ (by first | (simp; done) | omega | (simp; omega)) _) | with_reducible refine belows ?_ (by assumption)))⟩
def withinF (m a n b : BitVec 64) : Bool := rtF m a && (rtF n b && (decide (U (lkB n b) ≤ U (lkB m a)) && (decide (U (lkT m a) ≤ U (lkT n b)) && (mP m &&& ~~~ mP n == 0#64))))
set_option maxHeartbeats 4000000 in
set_option maxRecDepth 100000 in
theorem within_any (g h : Bool) (m a n b : BitVec 64) (w : World) : Calls Try.prog 17 #[.agg #[.bool g, .int .u64 (U m), .int .u64 (U a)], .agg #[.bool h, .int .u64 (U n), .int .u64 (U b)]] w fun r w' => r = .returned (.bool (withinF m a n b)) ∧ Below w.heap.size w w' := by
  have ca : ∀ w : World, Calls Try.prog 16 #[.agg #[.bool g, .int .u64 (U m), .int .u64 (U a)]] w fun r w' => r = .returned (.bool (rtF m a)) ∧ Below w.heap.size w w' := fun w => right_any g m a w
  have cb : ∀ w : World, Calls Try.prog 16 #[.agg #[.bool h, .int .u64 (U n), .int .u64 (U b)]] w fun r w' => r = .returned (.bool (rtF n b)) ∧ Below w.heap.size w w' := fun w => right_any h n b w
  unfold withinF
  cases h1 : rtF m a
  all_goals try cases h2 : rtF n b
  all_goals try cases h3 : decide (U (lkB n b) ≤ U (lkB m a))
  all_goals try cases h4 : decide (U (lkT m a) ≤ U (lkT n b))
  all_goals
    rw [h1] at ca
    rw [h2] at cb
    go_enter Try.func17, Try.ntmps17
    go_wp2_with (first | (go_at_call 15; (with_reducible refine (look_any _ _ _ _).mono ?_); rintro e w' ⟨rfl, hbl⟩; obtain ⟨hcw, hfw, hsw⟩ := below_ifs hbl; (try simp only [World.size_alloc, World.size_setCell, World.size_drew, size_drewN_] at hcw hfw hsw)) | (go_at_call 16; (with_reducible refine (ca _).mono ?_); rintro e w' ⟨rfl, hbl⟩; obtain ⟨hcw, hfw, hsw⟩ := below_ifs hbl; (try simp only [World.size_alloc, World.size_setCell, World.size_drew, size_drewN_] at hcw hfw hsw)) | (go_at_call 16; (with_reducible refine (cb _).mono ?_); rintro e w' ⟨rfl, hbl⟩; obtain ⟨hcw, hfw, hsw⟩ := below_ifs hbl; (try simp only [World.size_alloc, World.size_setCell, World.size_drew, size_drewN_] at hcw hfw hsw)) | (go_at_call 32; (with_reducible refine (pwithin_any _ _ _).mono ?_); rintro e w' ⟨rfl, rfl⟩))
    go_ret
    exact ⟨ret_bool (by simp), by (repeat (first | with_reducible exact Below.refl _ _ | with_reducible assumption | with_reducible refine below_drewN ?_ _ | with_reducible refine Below.drew ?_ | with_reducible refine below_alloc ?_ _ | (with_reducible refine Below.setCell ?_ (by first | (simp; done) | omega | (simp; omega)) _) | with_reducible refine belows ?_ (by assumption)))⟩
end Go.Proofs.Ytikpkoeeinkecaa
