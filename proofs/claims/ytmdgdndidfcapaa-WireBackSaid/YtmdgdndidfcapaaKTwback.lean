import Derived.Test.YtmdgdndidfcapaaKTwback0
namespace Go.Proofs.Ytmdgdndidfcapaa.QB
open Go.RowKit Go.Proofs.YtmdgdndidfcapaaW.PrintWords Go.Proofs.YtmdgdndidfcapaaW.PrintLast Go.Proofs.YtmdgdndidfcapaaW.PrintMore
attribute [local go_sem] max2_int min2_int max_two min_two max_three min_three max_four min_four
set_option linter.unusedVariables false
set_option linter.unusedSimpArgs false
set_option maxHeartbeats 8000000 in
set_option maxRecDepth 100000 in
theorem ambrylaw24_WireBack.walk (k : Nat) (kd : Int) (ses : Int) (bu : ByteArray) (ob : ByteArray) (ve : ByteArray) (pr : ByteArray) (de : ByteArray) (bo : ByteArray) (ck : Int) (re : Int) (im : Int) (id : Int) (n : Int) (A : Option Addr) (c : Nat) (pa : List Int) (A1 : Option Addr) (c1 : Nat) (l1 : List Int) (m : Int) (w : World) (hr : Kd.C (Kd.int .i64) w A pa.length pa) (hc : pa.length ≤ c) (hr1 : Kd.C (Kd.int .u8) w A1 l1.length l1) (hc1 : l1.length ≤ c1) (hm : 0 ≤ m ∧ m ≤ 255)
  (x : List Int) (e : Int) (hx : pa.length ≤ 1000 → wire_Bytes.f k kd ses bu ob ve pr de bo ck re im id n pa = some (x, e) ∧ (e = 0 → 0 < x.length ∧ x.length ≤ 1000000 ∧ wire_Read.f k x = some (kd, ses, bu, ob, ve, pr, de, bo, ck, re, im, id, n, pa, 0) ∧ wire_Read.f k (x ++ [m]) = some (0, 0, ⟨#[]⟩, ⟨#[]⟩, ⟨#[]⟩, ⟨#[]⟩, ⟨#[]⟩, ⟨#[]⟩, 0, 0, 0, 0, 0, [], 4) ∧ wire_Read.f k (x.take (x.length - 1)) = some (0, 0, ⟨#[]⟩, ⟨#[]⟩, ⟨#[]⟩, ⟨#[]⟩, ⟨#[]⟩, ⟨#[]⟩, 0, 0, 0, 0, 0, [], 4)) ∧ (e ≠ 0 → e = 4 ∧ x = [] ∧ wire_Check.f k kd ses bu ob ve pr de bo ck re im id n pa = some 4))
  (ykd : Int) (yses : Int) (ybu : ByteArray) (yob : ByteArray) (yve : ByteArray) (ypr : ByteArray) (yde : ByteArray) (ybo : ByteArray) (yck : Int) (yre : Int) (yim : Int) (yid : Int) (yn : Int) (ypa : List Int) (ey : Int) (hy : wire_Read.f k l1 = some (ykd, yses, ybu, yob, yve, ypr, yde, ybo, yck, yre, yim, yid, yn, ypa, ey)) (hy0 : ey = 0 → wire_Bytes.f k ykd yses ybu yob yve ypr yde ybo yck yre yim yid yn ypa = some (l1, 0)) (hy4 : ey ≠ 0 → (ykd, yses, ybu, yob, yve, ypr, yde, ybo, yck, yre, yim, yid, yn, ypa) = (0, 0, ⟨#[]⟩, ⟨#[]⟩, ⟨#[]⟩, ⟨#[]⟩, ⟨#[]⟩, ⟨#[]⟩, 0, 0, 0, 0, 0, [])) (hyl : ypa.length ≤ 100000) :
  Calls Try.prog 3 #[.agg #[.int .i64 kd, .int .i64 ses, .string bu, .string ob, .string ve, .string pr, .string de, .string bo, .int .i64 ck, .int .i64 re, .int .i64 im, .int .i64 id, .int .i64 n, .slice A pa.length c], .slice A1 l1.length c1, .int .u8 m] w fun e w' => e = .returned (.bool true) ∧ Below w.heap.size w w' := by
 have HR := Aside0.mk hr
 have HR1 := Aside0.mk hr1
 have HC := Aside0.mk hc
 have HC1 := Aside0.mk hc1
 have HXX := Aside0.mk hx
 have HY := Aside0.mk hy
 have HY0 := Aside0.mk hy0
 have HY4 := Aside0.mk hy4
 have HYL := Aside0.mk hyl
 clear hr hr1 hc hc1 hx hy hy0 hy4 hyl hm
 go_enter Try.func3, Try.ntmps3
 by_cases hbig : (pa.length : Int) > 1000
 ·have q0 : decide ((pa.length : Int) > 1000) = true := decide_eq_true hbig
  clear hbig
  go_wp2_with (first | ((with_reducible refine gate_dst (N := 3) rfl ?_); refine box_event ?hg (N := 3) ?hd (cs := #[.int .i64 kd, .int .i64 ses, .string bu, .string ob, .string ve, .string pr, .string de, .string bo, .int .i64 ck, .int .i64 re, .int .i64 im, .int .i64 id, .int .i64 n, .slice A pa.length c]) (t := 30) ?hr ?_; (case hd => rfl); (case hg => rfl); (case hr => first | (go_simp; done) | (go_simp; rfl)); intro g0 hg w1 hbox hb; have HX := Aside0.mk hbox; have HB := Aside0.mk hb; clear hbox hb hg; have a13 : w1.cell? ⟨g0, 13, none⟩ = some (.slice A pa.length c) := (blk_cell HX.out 13).trans rfl))
  refine (ambrylaw24_lives.holds _).mono ?_
  rintro e w2 ⟨rfl, hb⟩
  have HB2 := Aside0.mk (below_step HB.out hb)
  clear hb
  go_wp2
  exact bodyPost_ret (v := .bool true) (by simp [results, Try.results3, go_sem]) rfl ⟨rfl, HB2.out⟩
 ·have q0 : decide ((pa.length : Int) > 1000) = false := decide_eq_false hbig
  obtain ⟨hx1, hx2, hx3⟩ := HXX.out (by omega)
  have HX1 := Aside0.mk hx1
  have HX2 := Aside0.mk hx2
  have HX3 := Aside0.mk hx3
  have HPA : Aside0 (pa.length ≤ 140737488355328) := ⟨by omega⟩
  clear hbig hx1 hx2 hx3 HXX
  go_wp2_with (first | ((with_reducible refine gate_dst (N := 3) rfl ?_); refine box_event ?hg (N := 3) ?hd (cs := #[.int .i64 kd, .int .i64 ses, .string bu, .string ob, .string ve, .string pr, .string de, .string bo, .int .i64 ck, .int .i64 re, .int .i64 im, .int .i64 id, .int .i64 n, .slice A pa.length c]) (t := 30) ?hr ?_; (case hd => rfl); (case hg => rfl); (case hr => first | (go_simp; done) | (go_simp; rfl)); intro g0 hg w1 hbox hb; have HX := Aside0.mk hbox; have HB := Aside0.mk hb; clear hbox hb hg; have a13 : w1.cell? ⟨g0, 13, none⟩ = some (.slice A pa.length c) := (blk_cell HX.out 13).trans rfl) | ((with_reducible refine gate_dst (N := 25) rfl ?_); refine Kd.event_run rfl (load_step _ Try.isAgg30 Try.sizeOf30 rfl rfl rfl HX.out) ?_))
  refine (wire_Bytes.calls k kd ses bu ob ve pr de bo ck re im id n A c pa x e _ (Kd.C_below HR.out HB.out) HC.out HX1.out).mono ?_
  rintro e_ w2 ⟨vx, rfl, ho, hb⟩
  have HBX := Aside0.mk (blk_below HX.out hb)
  have HB2 := Aside0.mk (below_step HB.out hb)
  have HO := Aside0.mk ho
  clear ho hb HX HB
  go_upto_if 30 with (fail)
  (try simp only [Act.put, List.setIfInBounds_toArray, List.set_cons_zero, List.set_cons_succ])
  go_cut [] (fun wc => Aside0 (Below w.heap.size w wc))
  case first =>
   by_cases he : e = 0
   ·obtain ⟨x1, x2, x3, x4, x5⟩ := HX2.out he
    obtain ⟨z, hz⟩ : ∃ z, x ++ [m] = z := ⟨_, rfl⟩
    rw [hz] at x4
    have HZE := Aside0.mk hz
    have X1 := Aside0.mk x1
    have X2 := Aside0.mk x2
    have X3 := Aside0.mk x3
    have X4 := Aside0.mk x4
    have X5 := Aside0.mk x5
    subst he
    clear x1 x2 x3 x4 x5 hz HX1 HX2 HX3
    obtain ⟨Ax, cx, ev_⟩ := Kd.R_slice HO.out
    subst ev_
    go_wp2_with fail
    refine (wire_Read.calls k Ax cx x kd ses bu ob ve pr de bo ck re im id n pa 0 _ (Kd.R_reads' HO.out).2.2 (Kd.R_reads' HO.out).2.1 X3.out).mono ?_
    rintro e_ w3 ⟨vq, rfl, hq, hb⟩
    obtain ⟨Aq, cq, ev_⟩ := Kd.R_slice hq
    subst ev_
    have HQ := Aside0.mk (Kd.R_alloc hq (.cells #[.int .i64 kd, .int .i64 ses, .string bu, .string ob, .string ve, .string pr, .string de, .string bo, .int .i64 ck, .int .i64 re, .int .i64 im, .int .i64 id, .int .i64 n, .slice Aq pa.length cq] 30))
    have HO3 := Aside0.mk (Kd.R_alloc (Kd.R_below HO.out hb) (.cells #[.int .i64 kd, .int .i64 ses, .string bu, .string ob, .string ve, .string pr, .string de, .string bo, .int .i64 ck, .int .i64 re, .int .i64 im, .int .i64 id, .int .i64 n, .slice Aq pa.length cq] 30))
    have HBX3 := Aside0.mk (blk_alloc (blk_below HBX.out hb) (.cells #[.int .i64 kd, .int .i64 ses, .string bu, .string ob, .string ve, .string pr, .string de, .string bo, .int .i64 ck, .int .i64 re, .int .i64 im, .int .i64 id, .int .i64 n, .slice Aq pa.length cq] 30))
    have HBY3 := Aside0.mk (blk_new w3 (.cells #[.int .i64 kd, .int .i64 ses, .string bu, .string ob, .string ve, .string pr, .string de, .string bo, .int .i64 ck, .int .i64 re, .int .i64 im, .int .i64 id, .int .i64 n, .slice Aq pa.length cq] 30))
    have HB3 := Aside0.mk (below_alloc (below_step HB2.out hb) (.cells #[.int .i64 kd, .int .i64 ses, .string bu, .string ob, .string ve, .string pr, .string de, .string bo, .int .i64 ck, .int .i64 re, .int .i64 im, .int .i64 id, .int .i64 n, .slice Aq pa.length cq] 30))
    clear hq hb HO HBX HB2
    go_wp2_with (first | ((with_reducible refine gate_dst (N := 37) rfl ?_); refine Kd.R_lit (Kd.int .u8) _ 5 ?hg (N := 37) ?hd (xs := ([] : List Int)) (inner := []) (ok := fun _ => True) (okp := fun _ => True) ?hr ?hp (fun _ hk => hk) trivial (Below.refl _ _) (Nat.le_refl _) (by simp) ?_; (case hd => rfl); (case hg => rfl); (case hr => first | (go_simp; done) | (go_simp; rfl)); (case hp => exact Reps.none _ _); intro v5 w5 ho hb hg hn; clear hg hn; have HV5 := Aside0.mk ho; have HB5 := Aside0.mk hb; have HO5 := Aside0.mk (Kd.R_below HO3.out hb); clear ho hb) | ((with_reducible refine gate_builtin (b := .append) (xs := #[.tmp 37, .tmp 38]) rfl ?_); at_builtin; refine Kd.R_append_rows (Kd.int .u8) (w0 := (w3.alloc (.cells #[.int .i64 kd, .int .i64 ses, .string bu, .string ob, .string ve, .string pr, .string de, .string bo, .int .i64 ck, .int .i64 re, .int .i64 im, .int .i64 id, .int .i64 n, .slice Aq pa.length cq] 30))) (w3.alloc (.cells #[.int .i64 kd, .int .i64 ses, .string bu, .string ob, .string ve, .string pr, .string de, .string bo, .int .i64 ck, .int .i64 re, .int .i64 im, .int .i64 id, .int .i64 n, .slice Aq pa.length cq] 30)).heap.size rfl (.tmp 37) (.tmp 38) 31 5 (.int .u8 0) 1 rfl Try.underlying31 info5 rfl (by decide) (by omega) v5 [] x Ax x.length cx (fun _ => True) (fun _ => False) rfl rfl HV5.out (Kd.R_reads' HO5.out).2.2 (fun _ _ h => h) (fun _ h => h.elim) (fun _ _ => trivial) HB5.out HB5.out.size (by have := X2.out; simp only [List.length_nil]; omega) ?_; intro v6 w6 ho hb hg hat; clear hg hat; have HV6 := Aside0.mk ho; have HB6 := Aside0.mk hb; clear ho hb HV5 HB5 HO5) | ((with_reducible refine gate_dst (N := 41) rfl ?_); refine Kd.R_lit (Kd.int .u8) _ 5 ?hg (N := 41) ?hd (xs := ([m] : List Int)) (inner := [.int .u8 m]) (ok := fun _ => True) (okp := fun _ => True) ?hr ?hp (fun _ hk => hk) trivial (Below.refl _ _) (Nat.le_refl _) (by simp) ?_; (case hd => rfl); (case hg => rfl); (case hr => first | (go_simp; done) | (go_simp; rfl)); (case hp => exact (Reps.one (show Kd.M (Kd.int .u8) _ _ _ m [.int .u8 m] from rfl) (Reps.none _ _))); intro v7 w7 ho hb hg hn; clear hg hn; have HV7 := Aside0.mk ho; have HV6b := Aside0.mk (Kd.R_below HV6.out hb); have HB7 := Aside0.mk (below_step HB6.out hb); clear ho hb HV6 HB6; obtain ⟨A7, c7, e7⟩ := Kd.R_slice HV7.out; subst e7) | ((with_reducible refine gate_builtin (b := .append) (xs := #[.tmp 39, .tmp 41]) rfl ?_); at_builtin; refine Kd.R_append_rows (Kd.int .u8) (w0 := (w3.alloc (.cells #[.int .i64 kd, .int .i64 ses, .string bu, .string ob, .string ve, .string pr, .string de, .string bo, .int .i64 ck, .int .i64 re, .int .i64 im, .int .i64 id, .int .i64 n, .slice Aq pa.length cq] 30))) (w3.alloc (.cells #[.int .i64 kd, .int .i64 ses, .string bu, .string ob, .string ve, .string pr, .string de, .string bo, .int .i64 ck, .int .i64 re, .int .i64 im, .int .i64 id, .int .i64 n, .slice Aq pa.length cq] 30)).heap.size rfl (.tmp 39) (.tmp 41) 31 5 (.int .u8 0) 1 rfl Try.underlying31 info5 rfl (by decide) (by omega) v6 ([] ++ x) [m] A7 1 c7 (fun _ => True) (fun _ => False) rfl rfl HV6b.out (Kd.R_reads' HV7.out).2.2 (fun _ _ h => h) (fun _ h => h.elim) (fun _ _ => trivial) HB7.out HB7.out.size (by have := X2.out; simp only [List.nil_append]; omega) ?_; intro v8 w8 ho hb hg hat; clear hg hat; rw [List.nil_append, HZE.out] at ho; have HV8 := Aside0.mk ho; have HB8 := Aside0.mk hb; clear ho hb HV6b HV7 HB7; obtain ⟨A8, c8, e8⟩ := Kd.R_slice HV8.out; subst e8))
    refine (wire_Read.calls k A8 c8 z 0 0 ⟨#[]⟩ ⟨#[]⟩ ⟨#[]⟩ ⟨#[]⟩ ⟨#[]⟩ ⟨#[]⟩ 0 0 0 0 0 [] 4 _ (Kd.R_reads' HV8.out).2.2 (Kd.R_reads' HV8.out).2.1 X4.out).mono ?_
    rintro e_ w9 ⟨vz, rfl, hq, hb⟩
    obtain ⟨Az, cz, ev_⟩ := Kd.R_slice hq
    subst ev_
    have hb4 := below_step HB8.out hb
    have HQ9 := Aside0.mk (Kd.R_alloc (Kd.R_below HQ.out hb4) (.cells #[.int .i64 0, .int .i64 0, .string ⟨#[]⟩, .string ⟨#[]⟩, .string ⟨#[]⟩, .string ⟨#[]⟩, .string ⟨#[]⟩, .string ⟨#[]⟩, .int .i64 0, .int .i64 0, .int .i64 0, .int .i64 0, .int .i64 0, .slice Az 0 cz] 30))
    have HO9 := Aside0.mk (Kd.R_alloc (Kd.R_below HO3.out hb4) (.cells #[.int .i64 0, .int .i64 0, .string ⟨#[]⟩, .string ⟨#[]⟩, .string ⟨#[]⟩, .string ⟨#[]⟩, .string ⟨#[]⟩, .string ⟨#[]⟩, .int .i64 0, .int .i64 0, .int .i64 0, .int .i64 0, .int .i64 0, .slice Az 0 cz] 30))
    have HBX9 := Aside0.mk (blk_alloc (blk_below HBX3.out hb4) (.cells #[.int .i64 0, .int .i64 0, .string ⟨#[]⟩, .string ⟨#[]⟩, .string ⟨#[]⟩, .string ⟨#[]⟩, .string ⟨#[]⟩, .string ⟨#[]⟩, .int .i64 0, .int .i64 0, .int .i64 0, .int .i64 0, .int .i64 0, .slice Az 0 cz] 30))
    have HBY9 := Aside0.mk (blk_alloc (blk_below HBY3.out hb4) (.cells #[.int .i64 0, .int .i64 0, .string ⟨#[]⟩, .string ⟨#[]⟩, .string ⟨#[]⟩, .string ⟨#[]⟩, .string ⟨#[]⟩, .string ⟨#[]⟩, .int .i64 0, .int .i64 0, .int .i64 0, .int .i64 0, .int .i64 0, .slice Az 0 cz] 30))
    have HB9 := Aside0.mk (below_alloc (below_step HB3.out hb4) (.cells #[.int .i64 0, .int .i64 0, .string ⟨#[]⟩, .string ⟨#[]⟩, .string ⟨#[]⟩, .string ⟨#[]⟩, .string ⟨#[]⟩, .string ⟨#[]⟩, .int .i64 0, .int .i64 0, .int .i64 0, .int .i64 0, .int .i64 0, .slice Az 0 cz] 30))
    clear hq hb hb4 HQ HO3 HBX3 HBY3 HB3 HV8 HB8
    go_wp2_with (first | ((with_reducible refine gate_dst (N := 46) rfl ?_); refine Kd.event_run rfl (load_step _ Try.isAgg30 Try.sizeOf30 rfl rfl rfl HBY9.out) ?_) | ((with_reducible refine gate_dst (N := 47) rfl ?_); refine Kd.event_run rfl (load_step _ Try.isAgg30 Try.sizeOf30 rfl rfl rfl HBX9.out) ?_))
    refine (ambryref24_Same.eq kd ses bu ob ve pr de bo ck re im id n Aq cq A c pa _ (Kd.R_reads' HQ9.out).2.2 (Kd.C_below HR.out HB9.out) HPA.out).mono ?_
    rintro e_ w11 ⟨rfl, hb⟩
    have HO11 := Aside0.mk (Kd.R_below HO9.out hb)
    have HB11 := Aside0.mk (below_step HB9.out hb)
    clear hb HQ9 HO9 HBX9 HBY9 HB9
    have q1 : ((x.length : Int) == 0) = false := by have := X1.out; rw [beq_eq_false_iff_ne]; omega
    have q2 : wrap64 ((x.length : Int) - 1) = ((x.length - 1 : Nat) : Int) := by have h1 := X1.out; have h2 := X2.out; unfold wrap64; omega
    have hcut := cut_to (P := Try.prog) 31 5 .i64 Try.underlying31 (Option.map_eq_some_iff.1 info5).choose_spec.1 Ax x.length cx ((x.length - 1 : Nat) : Int) (by omega) (by omega) (Kd.R_reads' HO11.out).2.1
    go_wp2_with fail
    obtain ⟨y, hy⟩ : ∃ y, x.take (x.length - 1) = y := ⟨_, rfl⟩
    have hyl : x.length - 1 = y.length := by rw [← hy, List.length_take]; omega
    have hcy : Kd.C (Kd.int .u8) w11 Ax y.length y := by rw [← hy]; exact Kd.C_take (Kd.R_reads' HO11.out).2.2 (by omega)
    have hcy2 : y.length ≤ cx := by have := (Kd.R_reads' HO11.out).2.1; omega
    have hx5 := X5.out
    rw [hy] at hx5
    rw [hyl]
    refine (wire_Read.calls k Ax cx y 0 0 ⟨#[]⟩ ⟨#[]⟩ ⟨#[]⟩ ⟨#[]⟩ ⟨#[]⟩ ⟨#[]⟩ 0 0 0 0 0 [] 4 _ hcy hcy2 hx5).mono ?_
    rintro e_ w12 ⟨vy, rfl, hq, hb⟩
    obtain ⟨Ay, cy, ev_⟩ := Kd.R_slice hq
    subst ev_
    have HB12 := Aside0.mk (below_alloc (below_step HB11.out hb) (.cells #[.int .i64 0, .int .i64 0, .string ⟨#[]⟩, .string ⟨#[]⟩, .string ⟨#[]⟩, .string ⟨#[]⟩, .string ⟨#[]⟩, .string ⟨#[]⟩, .int .i64 0, .int .i64 0, .int .i64 0, .int .i64 0, .int .i64 0, .slice Ay 0 cy] 30))
    clear hq hb hcut hy hyl hcy hcy2 hx5 HB11 HO11 q1 q2
    go_wp2_with fail
    go_meet
    case rel => exact HB12
   ·obtain ⟨rfl, rfl, x3⟩ := HX3.out he
    have X3 := Aside0.mk x3
    clear x3 HX1 HX2 HX3 he
    obtain ⟨Ax, cx, ev_⟩ := Kd.R_slice HO.out
    subst ev_
    go_wp2_with (first | ((with_reducible refine gate_dst (N := 82) rfl ?_); (refine gate_guard (by rfl) ?_; dsimp only); refine Kd.event_run rfl (load_step _ Try.isAgg30 Try.sizeOf30 rfl rfl rfl HBX.out) ?_))
    refine (wire_Check.calls k kd ses bu ob ve pr de bo ck re im id n A c pa 4 _ (Kd.C_below HR.out HB2.out) HC.out X3.out).mono ?_
    rintro e_ w3 ⟨rfl, hb⟩
    have HB3 := Aside0.mk (below_step HB2.out hb)
    clear hb HB2 HBX
    go_wp2_with fail
    go_meet
    case rel => exact HB3
  case rest =>
   have HB := hcut
   clear hcut HBX HB2 HO HX1 HX2 HX3
   go_wp2_with fail
   refine (wire_Read.calls k A1 c1 l1 ykd yses ybu yob yve ypr yde ybo yck yre yim yid yn ypa ey _ (Kd.C_below HR1.out HB.out) HC1.out HY.out).mono ?_
   rintro e_ w3 ⟨vy, rfl, hq, hb⟩
   obtain ⟨Ay, cy, ev_⟩ := Kd.R_slice hq
   subst ev_
   have HQ := Aside0.mk (Kd.R_alloc hq (.cells #[.int .i64 ykd, .int .i64 yses, .string ybu, .string yob, .string yve, .string ypr, .string yde, .string ybo, .int .i64 yck, .int .i64 yre, .int .i64 yim, .int .i64 yid, .int .i64 yn, .slice Ay ypa.length cy] 30))
   have HBY := Aside0.mk (blk_new w3 (.cells #[.int .i64 ykd, .int .i64 yses, .string ybu, .string yob, .string yve, .string ypr, .string yde, .string ybo, .int .i64 yck, .int .i64 yre, .int .i64 yim, .int .i64 yid, .int .i64 yn, .slice Ay ypa.length cy] 30))
   have HB3 := Aside0.mk (below_alloc (below_step HB.out hb) (.cells #[.int .i64 ykd, .int .i64 yses, .string ybu, .string yob, .string yve, .string ypr, .string yde, .string ybo, .int .i64 yck, .int .i64 yre, .int .i64 yim, .int .i64 yid, .int .i64 yn, .slice Ay ypa.length cy] 30))
   clear hq hb HB HY
   by_cases h0 : ey = 0
   ·have q1 : (ey != 0) = false := by simpa using h0
    have X := Aside0.mk (HY0.out h0)
    clear h0 HY0 HY4
    go_wp2_with (first | ((with_reducible refine gate_dst (N := 100) rfl ?_); refine Kd.event_run rfl (load_step _ Try.isAgg30 Try.sizeOf30 rfl rfl rfl HBY.out) ?_))
    refine (wire_Bytes.calls k ykd yses ybu yob yve ypr yde ybo yck yre yim yid yn Ay cy ypa l1 0 _ (Kd.R_reads' HQ.out).2.2 (Kd.R_reads' HQ.out).2.1 X.out).mono ?_
    rintro e_ w4 ⟨vb, rfl, ho, hb⟩
    have HB4 := Aside0.mk (below_step HB3.out hb)
    have hcv1 : (convert 31 9 vb).run Try.prog w4 = .ok (.string (strOfNums l1)) w4 := own_string Try.underlying31 Try.underlying5 Try.underlying9 (Kd.own_of_R ho)
    have hcv2 : (convert 31 9 (.slice A1 l1.length c1)).run Try.prog w4 = .ok (.string (strOfNums l1)) w4 := Kd.C_string Try.underlying31 Try.underlying5 Try.underlying9 (Kd.C_below HR1.out HB4.out)
    clear hb ho HB3 HQ HBY
    go_wp2_with fail
    refine (ambrylaw24_lives.holds _).mono ?_
    rintro e_ w5 ⟨rfl, hb⟩
    have HB5 := Aside0.mk (below_step HB4.out hb)
    clear hb HB4
    go_wp2
    exact bodyPost_ret (v := .bool true) (by simp [results, Try.results3, go_sem]) rfl ⟨rfl, HB5.out⟩
   ·have q1 : (ey != 0) = true := by simpa using h0
    have hz := HY4.out h0
    simp only [Prod.mk.injEq] at hz
    obtain ⟨rfl, rfl, rfl, rfl, rfl, rfl, rfl, rfl, rfl, rfl, rfl, rfl, rfl, rfl⟩ := hz
    clear h0 HY0 HY4
    go_wp2_with (first | ((with_reducible refine gate_dst (N := 93) rfl ?_); refine Kd.event_run rfl (load_step _ Try.isAgg30 Try.sizeOf30 rfl rfl rfl HBY.out) ?_))
    refine (ambryref24_Same.eq 0 0 ⟨#[]⟩ ⟨#[]⟩ ⟨#[]⟩ ⟨#[]⟩ ⟨#[]⟩ ⟨#[]⟩ 0 0 0 0 0 Ay cy none 0 [] _ (Kd.R_reads' HQ.out).2.2 (Kd.C_nil _ _) (by simp)).mono ?_
    rintro e_ w4 ⟨rfl, hb⟩
    have HB4 := Aside0.mk (below_step HB3.out hb)
    clear hb HB3 HQ HBY
    go_wp2_with fail
    refine (ambrylaw24_lives.holds _).mono ?_
    rintro e_ w5 ⟨rfl, hb⟩
    have HB5 := Aside0.mk (below_step HB4.out hb)
    clear hb HB4
    go_wp2
    exact bodyPost_ret (v := .bool true) (by simp [results, Try.results3, go_sem]) rfl ⟨rfl, HB5.out⟩
end Go.Proofs.Ytmdgdndidfcapaa.QB
