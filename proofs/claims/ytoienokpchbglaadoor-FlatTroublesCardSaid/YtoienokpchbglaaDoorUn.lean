/- Words for troubles: angles, kinds, rows of troubles. flat.uneven, flat.more, the document's UnevenIs. Printed by gen_un.py. -/
import Derived.Test.YtoienokpchbglaaDoorSr
namespace Go.Proofs.YtoienokpchbglaaDoor
set_option linter.unusedSimpArgs false
set_option linter.unusedVariables false
section
open Go.RowKit Go.Maps

def pairS (ds : List Int) (j : Nat) : Int := ((List.range j).map fun m => ds.getD (2 * m + 1) 0 - ds.getD (2 * m) 0).sum
theorem pairS_zero (ds : List Int) : pairS ds 0 = 0 := rfl
theorem pairS_succ (ds : List Int) (j : Nat) : pairS ds (j + 1) = pairS ds j + (ds.getD (2 * j + 1) 0 - ds.getD (2 * j) 0) := by
 unfold pairS
 rw [List.range_succ, List.map_append, List.sum_append]
 simp
def unevB (ds : List Int) : Bool := decide (ds.length % 2 = 1) || !decide (pairS ds (ds.length / 2) = 4)
def moreI (ks : List Int) : Int := (ks.map fun k => 3 - 2 * k).sum
theorem moreI_nil : moreI [] = 0 := rfl
theorem moreI_snoc (ks : List Int) (k : Int) : moreI (ks ++ [k]) = moreI ks + (3 - 2 * k) := by
 unfold moreI
 rw [List.map_append, List.sum_append]
 simp
theorem moreI_bd {ks : List Int} (h : ∀ k ∈ ks, k = 1 ∨ k = 2) : -(ks.length : Int) ≤ moreI ks ∧ moreI ks ≤ ks.length := by
 induction ks with
 | nil => simp [moreI]
 | cons a ks ih =>
  have h1 := ih fun k hk => h k (List.mem_cons_of_mem _ hk)
  have h2 := h a List.mem_cons_self
  have h3 : moreI (a :: ks) = (3 - 2 * a) + moreI ks := by simp [moreI]
  rw [h3, List.length_cons]
  omega
/-- a star as they come -/
structure GoodS (s : St3) : Prop where
 same : s.2.1.length = s.2.2.length
 few : s.2.1.length ≤ 8
 dir : ∀ d ∈ s.2.1, 0 ≤ d ∧ d < 8
 asc : s.2.1.Pairwise (· < ·)
 kind : ∀ k ∈ s.2.2, k = 1 ∨ k = 2
theorem goodS_of {cs : List C5} (h : ∀ c ∈ cs, c.2 = 1 ∨ c.2 = 2) (p : P2) : GoodS (starP cs p) := by
 refine ⟨(dsK_len _ 8).1, (dsK_len _ 8).2, ?_, ?_, ?_⟩
 ·intro d hd
  simp only [starP, dsK, List.mem_map, List.mem_filter, List.mem_range] at hd
  obtain ⟨n, hn, rfl⟩ := hd
  omega
 ·simp only [starP, dsK]
  rw [List.pairwise_map]
  refine List.Pairwise.imp ?_ ((List.pairwise_lt_range (n := 8)).filter _)
  intro a b hab
  omega
 ·intro k hk
  simp only [starP, ksK, List.mem_map, List.mem_filter, List.mem_range, decide_eq_true_eq] at hk
  obtain ⟨n, ⟨hn, hp⟩, rfl⟩ := hk
  have h1 := (kindD_pos h (edP p n)).1
  unfold kfP at hp ⊢
  omega
theorem goodC {L : List T3} {cs : List C5} (h : ∀ c ∈ cs, c.2 = 1 ∨ c.2 = 2) (ks : List P2) : ∀ s ∈ starsC L cs ks, GoodS s := by
 intro s hs
 unfold starsC at hs
 obtain ⟨p, _, rfl⟩ := List.mem_map.1 hs
 exact goodS_of h p
theorem goodD {L : List T3} {cs : List C5} (h : ∀ c ∈ cs, c.2 = 1 ∨ c.2 = 2) (ps : List P2) : ∀ s ∈ starsD L cs ps, GoodS s := by
 intro s hs
 unfold starsD at hs
 obtain ⟨p, _, rfl⟩ := List.mem_map.1 hs
 exact goodS_of h p
theorem asc_at {ds : List Int} (h : ds.Pairwise (· < ·)) {i j : Nat} {a b : Int} (hij : i < j) (hi : ds[i]? = some a) (hj : ds[j]? = some b) : a < b := by
 obtain ⟨h1, e1⟩ := List.getElem?_eq_some_iff.1 hi
 obtain ⟨h2, e2⟩ := List.getElem?_eq_some_iff.1 hj
 rw [← e1, ← e2]
 exact List.pairwise_iff_getElem.1 h i j h1 h2 hij
def trb (s : St3) : List T3 := (if unevB s.2.1 = true then [(s.1.1, s.1.2, (1 : Int))] else []) ++ if moreI s.2.2 ≠ 2 ∧ moreI s.2.2 ≠ -2 then [(s.1.1, s.1.2, (2 : Int))] else []
def trbL (ss : List St3) : List T3 := ss.flatMap trb
theorem trbL_snoc (ss : List St3) (s : St3) : trbL (ss ++ [s]) = trbL ss ++ trb s := by simp [trbL]
theorem trb_len (s : St3) : (trb s).length ≤ 2 := by
 unfold trb
 rw [List.length_append]
 split <;> split <;> simp
theorem trbL_len (ss : List St3) : (trbL ss).length ≤ 2 * ss.length := by
 induction ss with
 | nil => simp [trbL]
 | cons s ss ih =>
  have h := trb_len s
  have e : trbL (s :: ss) = trb s ++ trbL ss := by simp [trbL]
  rw [e, List.length_append, List.length_cons]
  omega
theorem trouble_info : (Tryd.prog.info? 65).map (fun i => (i.zero, i.size, i.bytes)) = some (some (.agg #[.int .i64 0, .int .i64 0, .int .i64 0]), 3, 24) := by kernel_rfl
theorem own_len_le {w : World} {base : Nat} {v : Value} {ss : List St3} {zs : List Z3} (h : StarsW w base v ss zs) {j : Nat} {s : St3} (hj : ss[j]? = some s) : s.2.1.length ≤ 9223372036854775807 ∧ s.2.2.length ≤ 9223372036854775807 := by
 obtain ⟨dv, kv, h1, h2, h3⟩ := h.row j s hj
 obtain ⟨Ad, cd, _, h4, h5⟩ := own_slice h2
 obtain ⟨Ak, ck, _, h6, h7⟩ := own_slice h3
 unfold maxLen at h5 h7
 omega
theorem StarsW.at_ {w : World} {base c : Nat} {A : Option Addr} {ss : List St3} {zs : List Z3} (h : StarsW w base (.slice A ss.length c) ss zs) {j : Nat} {s : St3} (hj : ss[j]? = some s) :
  ∃ g Ad cd Ak ck, A = some ⟨g, 0, none⟩ ∧ w.cell? ⟨g, j * 4, none⟩ = some (.int .i64 s.1.1) ∧ w.cell? ⟨g, j * 4 + 1, none⟩ = some (.int .i64 s.1.2) ∧ w.cell? ⟨g, j * 4 + 2, none⟩ = some (.slice Ad s.2.1.length cd) ∧ w.cell? ⟨g, j * 4 + 3, none⟩ = some (.slice Ak s.2.2.length ck) ∧ Rd w 1 Ad s.2.1.length (vis s.2.1) ∧ Rd w 1 Ak s.2.2.length (vis s.2.2) := by
 obtain ⟨dv, kv, h1, h2, h3⟩ := h.row j s hj
 have hl := (List.getElem?_eq_some_iff.1 hj).1
 obtain ⟨g, cp, cur, hA, _, _, _, _⟩ := own_addr h.own (by omega)
 cases hA
 obtain ⟨Ad, cd, rfl, _, _⟩ := own_slice h2
 obtain ⟨Ak, ck, rfl, _, _⟩ := own_slice h3
 obtain ⟨e0, e1, e2, e3⟩ := zcs_at h1
 exact ⟨g, Ad, cd, Ak, ck, rfl, (h.own.cellAt (j * 4) (by omega)).trans e0, (h.own.cellAt (j * 4 + 1) (by omega)).trans e1, (h.own.cellAt (j * 4 + 2) (by omega)).trans e2, (h.own.cellAt (j * 4 + 3) (by omega)).trans e3, Rd.of_own h2, Rd.of_own h3⟩

theorem endP_len {cs : List C5} {ks : List P2} (h : PtI (EndP cs) ks) : ks.length ≤ 2 * cs.length := by
 have h1 := nodup_sub_len (sortedP_nodup h.sorted) (l := cs.flatMap fun c => [eP c.1, eQ c.1]) (fun p hp => by
  obtain ⟨c, hc, h2⟩ := (h.mem p).1 hp
  rw [List.mem_flatMap]
  exact ⟨c, hc, by simpa using h2⟩)
 have h2 : (cs.flatMap fun c => [eP c.1, eQ c.1]).length = 2 * cs.length := by
  simp [List.length_flatMap, Function.comp_def, List.map_const', List.sum_replicate_nat]
  omega
 omega
theorem corP_len {L : List T3} {ps : List P2} (h : PtI (fun p => p ∈ cornersA L) ps) : ps.length ≤ 3 * L.length := by
 have h1 := nodup_sub_len (sortedP_nodup h.sorted) (fun p hp => (h.mem p).1 hp)
 have h2 : (cornersA L).length = 3 * L.length := by
  simp [cornersA, List.length_flatMap, Function.comp_def, List.map_const', List.sum_replicate_nat]
  omega
 omega
/-- troubles as they lie, in a block of the call's own -/
structure TrW (w0 : World) (l : List T3) (v : Value) (w : World) : Prop where
 own : w.ownsRow w0.heap.size 65 3 v l.length (tcT l)
 bel : Below w0.heap.size w0 w
theorem TrW.below {w0 w w' : World} {l : List T3} {v : Value} (h : TrW w0 l v w) (hb : Below w.heap.size w w') : TrW w0 l v w' := ⟨own_below h.own hb (Nat.le_refl _), stay_b h.bel hb⟩
theorem TrW.put {w0 w w' : World} {l : List T3} {v v' : Value} {x y k : Int} (h : TrW w0 l v w) (ho : w'.ownsRow w0.heap.size 65 3 v' (l.length + 1) (tcT l ++ [.int .i64 x, .int .i64 y, .int .i64 k])) (hb : Below w0.heap.size w w') : TrW w0 (l ++ [(x, y, k)]) v' w' := by
 refine ⟨?_, h.bel.trans hb⟩
 rw [List.length_append]
 have e : tcT (l ++ [(x, y, k)]) = tcT l ++ [.int .i64 x, .int .i64 y, .int .i64 k] := by simp [tcT]
 rw [e]
 exact ho
end
section
open Go.RowKit Go.Maps

set_option maxRecDepth 100000 in
set_option maxHeartbeats 6400000 in
theorem uneven_any (x y : Int) (Ad Ak : Option Addr) (n m cd ck : Nat) (ds : List Int) (w : World) (hd : Rd w 1 Ad n (vis ds)) (hn : n ≤ 8) (h8 : ∀ d ∈ ds, 0 ≤ d ∧ d < 8) (ha : ds.Pairwise (· < ·)) :
  Calls Tryd.prog 56 #[.agg #[.int .i64 x, .int .i64 y, .slice Ad n cd, .slice Ak m ck]] w fun e w' => e = .returned (.bool (unevB ds)) ∧ Below w.heap.size w w' := by
 have hl := hd.ints_len
 have kb := heap_alloc_new w (.cells #[.int .i64 x, .int .i64 y, .slice Ad n cd, .slice Ak m ck] 51)
 have b2 : (w.alloc (.cells #[.int .i64 x, .int .i64 y, .slice Ad n cd, .slice Ak m ck] 51)).cell? ⟨w.heap.size, 2, none⟩ = some (.slice Ad n cd) := (cell_of_blk kb 2).trans rfl
 have HL := Lib.hid hl
 have H8 := Lib.hid h8
 have HA := Lib.hid ha
 have HD := Lib.hid (hd.below (below_new w (.cells #[.int .i64 x, .int .i64 y, .slice Ad n cd, .slice Ak m ck] 51)))
 have HB0 := Lib.hid (below_new w (.cells #[.int .i64 x, .int .i64 y, .slice Ad n cd, .slice Ak m ck] 51))
 clear hl kb hd h8 ha
 go_enter Tryd.func56, Tryd.ntmps56
 go_wp2_with fail
 generalize w.alloc (.cells #[.int .i64 x, .int .i64 y, .slice Ad n cd, .slice Ak m ck] 51) = w0 at b2 HD HB0 ⊢
 go_loopw [4, 5] (fun s x wr => ∃ (j i : Nat) (S : Int), i = 2 * j ∧ i ≤ n + 1 ∧ x = .int .i64 i ∧ s = .int .i64 S ∧ 0 ≤ S ∧ S ≤ 8 * j ∧ Hid (n % 2 = 0 → S = pairS ds j) ∧ Hid (Below w0.heap.size w0 wr)) (fun _ x _ => n + 1 - (intOf x).toNat)
 case atStart => exact ⟨0, 0, 0, rfl, by omega, rfl, rfl, by omega, by omega, Lib.hid (fun _ => rfl), Lib.hid (Below.refl _ _)⟩
 case round =>
  obtain ⟨j, i, S, hij, hi, rfl, rfl, hS0, hS8, hP, hB⟩ := hrel
  by_cases hin : i < n
  ·have hii : (i : Int) < (n : Int) := by omega
   have b2 := stay_c b2 hB.out (Nat.le_refl _)
   obtain ⟨q, hq⟩ : ∃ q, q = (i + 1) % n := ⟨_, rfl⟩
   have hqn : q < n := by rw [hq]; exact Nat.mod_lt _ (by omega)
   obtain ⟨bd, od, dq, hAd, _, hdq, cq⟩ := (HD.out.below hB.out).int hqn
   obtain ⟨bd', od', di, hAd', _, hdi, ci⟩ := (HD.out.below hB.out).int hin
   subst hAd
   simp only [Option.some.injEq, Addr.mk.injEq, and_true] at hAd'
   obtain ⟨rfl, rfl⟩ := hAd'
   have g1 := H8.out dq (List.mem_of_getElem? hdq)
   have g2 := H8.out di (List.mem_of_getElem? hdi)
   have hqe : n % 2 = 0 → q = i + 1 := fun he => by rw [hq]; exact Nat.mod_eq_of_lt (by omega)
   have hlt : n % 2 = 0 → di < dq := fun he => asc_at HA.out (by rw [hqe he]; omega) hdi hdq
   obtain ⟨T, hT⟩ : ∃ T, T = (dq - di + 8) % 8 := ⟨_, rfl⟩
   have hT2 : n % 2 = 0 → T = dq - di := fun he => by have := hlt he; omega
   have hps := pairS_succ ds j
   have hsum : n % 2 = 0 → S + T = pairS ds (j + 1) := fun he => by
    rw [hps, hP.out he, hT2 he]
    have e1 : ds.getD (2 * j + 1) 0 = dq := by
     rw [← hij, ← hqe he]
     simp [List.getD, hdq]
    have e2 : ds.getD (2 * j) 0 = di := by
     rw [← hij]
     simp [List.getD, hdi]
    rw [e1, e2]
   have m1 : IntKind.i64.wrap ((i : Int) + 1) = ((i + 1 : Nat) : Int) := by rw [IntWalk.i64_in _ (by omega)]; rfl
   have m2 : ((i : Int) + 1) % (n : Int) = (q : Int) := by rw [hq]; rfl
   have m3 : IntKind.i64.wrap (dq - di) = dq - di := IntWalk.i64_in _ (by omega)
   have m4 : IntKind.i64.wrap (dq - di + 8) = dq - di + 8 := IntWalk.i64_in _ (by omega)
   have m5 : (dq - di + 8).tmod 8 = T := by rw [hT]; exact Int.tmod_eq_emod_of_nonneg (by omega)
   have m6 : (dq - di + 8) % 8 = T := hT.symm
   have m7 : IntKind.i64.wrap (S + T) = S + T := IntWalk.i64_in _ (by omega)
   have m8 : ((i : Int) + 1).tmod (n : Int) = (q : Int) := by rw [Int.tmod_eq_emod_of_nonneg (by omega)]; exact m2
   have m9 : ¬ n = 0 := by omega
   have m10 : ¬ (n : Int) = 0 := by omega
   have hqi : (q : Int) < (n : Int) := by omega
   have hT8 : 0 ≤ T ∧ T < 8 := by omega
   have m11 : IntKind.i64.wrap ((i : Int) + 2) = ((i + 2 : Nat) : Int) := by rw [IntWalk.i64_in _ (by omega)]; rfl
   have HSUM := Lib.hid hsum
   have HIJ := Lib.hid hij
   clear hij hps hsum hT hT2 hlt hqe hq hdq hdi hP
   obtain ⟨wi, hwi⟩ : ∃ x, x = wr := ⟨_, rfl⟩
   subst hwi
   go_upto_region 6 with fail
   have hS : wi.drew.cell? ⟨w.heap.size, 2, none⟩ = some (.slice (some ⟨bd, od, none⟩) n cd) ∧ wi.drew.cell? ⟨bd, od + q, none⟩ = some (.int .i64 dq) ∧ wi.drew.cell? ⟨bd, od + i, none⟩ = some (.int .i64 di) ∧ wi.drew = wi.drew := ⟨b2, cq, ci, rfl⟩
   clear b2 cq ci
   go_region_held3 (fun w' => w'.cell? ⟨w.heap.size, 2, none⟩ = some (.slice (some ⟨bd, od, none⟩) n cd) ∧ w'.cell? ⟨bd, od + q, none⟩ = some (.int .i64 dq) ∧ w'.cell? ⟨bd, od + i, none⟩ = some (.int .i64 di) ∧ w' = wi.drew) (first | with_reducible exact hS | with_reducible assumption) (first | fail)
   rename_i hSS
   clear hSS
   have HB9 := Lib.hid (stay_b hB.out (Below.refl _ _).drew)
   clear hB
   go_wp2
   go_roundw
   case rel => exact ⟨j + 1, i + 2, S + T, by have := HIJ.out; omega, by omega, by go_num, by go_num, by omega, by omega, HSUM, HB9⟩
   case measure => simp [intOf]; omega
  ·have hii : ¬ (i : Int) < (n : Int) := by omega
   have ha := and1P (n : Int)
   have hres : unevB ds = (decide (n % 2 = 1) || !decide (S = 4)) := by
    unfold unevB
    rw [HL.out]
    by_cases he : n % 2 = 1
    ·simp [he]
    ·have h1 : n % 2 = 0 := by omega
     have h2 := hP.out h1
     have h3 : j = n / 2 := by omega
     rw [← h3, ← h2]
   have HRES := Lib.hid hres
   clear hres
   by_cases he : n % 2 = 1
   ·have hb1 : bits .and .i64 (n : Int) 1 = 1 := by rw [ha]; omega
    have hr : unevB ds = true := by rw [HRES.out]; simp [he]
    have HR := Lib.hid hr
    clear hr ha HRES he hP
    go_wp2
    go_ret
    exact ⟨ret_bool (by rw [HR.out]), stay_b HB0.out hB.out⟩
   ·have hb1 : bits .and .i64 (n : Int) 1 = 0 := by rw [ha]; omega
    have hr : unevB ds = !decide (S = 4) := by rw [HRES.out]; simp [he]
    have HR := Lib.hid hr
    clear hr ha HRES he hP
    go_wp2
    go_ret
    refine ⟨ret_bool (by rw [HR.out]; by_cases h4 : S = 4 <;> simp [h4]), stay_b HB0.out hB.out⟩
set_option maxRecDepth 100000 in
set_option maxHeartbeats 6400000 in
theorem more_any (x y : Int) (Ad Ak : Option Addr) (n m cd ck : Nat) (ks : List Int) (w : World) (hk : Rd w 1 Ak m (vis ks)) (hm : m ≤ 8) (h2 : ∀ k ∈ ks, k = 1 ∨ k = 2) :
  Calls Tryd.prog 57 #[.agg #[.int .i64 x, .int .i64 y, .slice Ad n cd, .slice Ak m ck]] w fun e w' => e = .returned (.int .i64 (moreI ks)) ∧ Below w.heap.size w w' := by
 have hl := hk.ints_len
 have kb := heap_alloc_new w (.cells #[.int .i64 x, .int .i64 y, .slice Ad n cd, .slice Ak m ck] 51)
 have b3 : (w.alloc (.cells #[.int .i64 x, .int .i64 y, .slice Ad n cd, .slice Ak m ck] 51)).cell? ⟨w.heap.size, 3, none⟩ = some (.slice Ak m ck) := (cell_of_blk kb 3).trans rfl
 have HL := Lib.hid hl
 have H2 := Lib.hid h2
 have HK := Lib.hid (hk.below (below_new w (.cells #[.int .i64 x, .int .i64 y, .slice Ad n cd, .slice Ak m ck] 51)))
 have HB0 := Lib.hid (below_new w (.cells #[.int .i64 x, .int .i64 y, .slice Ad n cd, .slice Ak m ck] 51))
 clear hl kb hk h2
 go_enter Tryd.func57, Tryd.ntmps57
 go_wp2_with fail
 generalize w.alloc (.cells #[.int .i64 x, .int .i64 y, .slice Ad n cd, .slice Ak m ck] 51) = w0 at b3 HK HB0 ⊢
 go_loopw [3, 9] (fun s x wr => ∃ j : Nat, j ≤ m ∧ x = .int .i64 j ∧ s = .int .i64 (moreI (ks.take j)) ∧ Hid (Below w0.heap.size w0 wr)) (fun _ x _ => m - (intOf x).toNat)
 case atStart => exact ⟨0, by omega, rfl, rfl, Lib.hid (Below.refl _ _)⟩
 case round =>
  obtain ⟨j, hj, rfl, rfl, hB⟩ := hrel
  by_cases hjm : j < m
  ·have hji : (j : Int) < (m : Int) := by omega
   obtain ⟨bk, ok, k, hAk, _, hkk, ck'⟩ := (HK.out.below hB.out).int hjm
   subst hAk
   have g := H2.out k (List.mem_of_getElem? hkk)
   have htk : ks.take (j + 1) = ks.take j ++ [k] := by rw [List.take_add_one, hkk]; rfl
   have hms := moreI_snoc (ks.take j) k
   rw [← htk] at hms
   have hbd := moreI_bd (ks := ks.take j) (fun k hk => H2.out k (List.mem_of_mem_take hk))
   have htl : (ks.take j).length ≤ 8 := by simp; omega
   obtain ⟨M, hM⟩ : ∃ M, M = moreI (ks.take j) := ⟨_, rfl⟩
   rw [← hM] at hms hbd ⊢
   have m1 : IntKind.i64.wrap (2 * k) = 2 * k := IntWalk.i64_in _ (by omega)
   have m2 : IntKind.i64.wrap (3 - 2 * k) = 3 - 2 * k := IntWalk.i64_in _ (by omega)
   have m3 : IntKind.i64.wrap (M + (3 - 2 * k)) = M + (3 - 2 * k) := IntWalk.i64_in _ (by omega)
   have HMS := Lib.hid hms
   have hb9 := ba hB.out (.cells #[.int .i64 k] 3)
   have HB9 := Lib.hid hB.out
   clear hms htk hkk hM hB hb9
   go_wp2
   go_roundw
   case rel => exact ⟨j + 1, by omega, by go_num, by rw [HMS.out], HB9⟩
   case measure => simp [intOf]; omega
  ·obtain rfl : j = m := by omega
   have hji : ¬ (j : Int) < (j : Int) := by omega
   have hte : ks.take j = ks := by rw [← HL.out, List.take_length]
   rw [hte]
   go_wp2
   go_ret
   exact ⟨rfl, stay_b HB0.out hB.out⟩
set_option maxRecDepth 100000 in
set_option maxHeartbeats 6400000 in
theorem unevenIs_any (x y : Int) (Ad Ak : Option Addr) (n m cd ck : Nat) (ds : List Int) (w : World) (hd : Rd w 1 Ad n (vis ds)) (hn : n ≤ 8) (h8 : ∀ d ∈ ds, 0 ≤ d ∧ d < 8) :
  Calls Tryd.prog 58 #[.agg #[.int .i64 x, .int .i64 y, .slice Ad n cd, .slice Ak m ck]] w fun e w' => e = .returned (.bool (unevB ds)) ∧ Below w.heap.size w w' := by
 have hl := hd.ints_len
 have kb := heap_alloc_new w (.cells #[.int .i64 x, .int .i64 y, .slice Ad n cd, .slice Ak m ck] 51)
 have b2 : (w.alloc (.cells #[.int .i64 x, .int .i64 y, .slice Ad n cd, .slice Ak m ck] 51)).cell? ⟨w.heap.size, 2, none⟩ = some (.slice Ad n cd) := (cell_of_blk kb 2).trans rfl
 have HL := Lib.hid hl
 have H8 := Lib.hid h8
 have HD := Lib.hid (hd.below (below_new w (.cells #[.int .i64 x, .int .i64 y, .slice Ad n cd, .slice Ak m ck] 51)))
 have HB0 := Lib.hid (below_new w (.cells #[.int .i64 x, .int .i64 y, .slice Ad n cd, .slice Ak m ck] 51))
 have hmr : (n : Int) % 2 = ((n % 2 : Nat) : Int) := by omega
 clear hl kb hd h8
 by_cases hodd : n % 2 = 1
 ·have hr : unevB ds = true := by unfold unevB; rw [HL.out]; simp [hodd]
  have ho : ((n : Int) % 2 == 1) = true := by rw [hmr]; simp [hodd]
  have HR := Lib.hid hr
  clear hr hmr hodd
  go_enter Tryd.func58, Tryd.ntmps58
  go_wp2_with fail
  go_ret
  exact ⟨ret_bool HR.out.symm, HB0.out⟩
 ·have ho : ((n : Int) % 2 == 1) = false := by rw [hmr]; simp; omega
  have h0 : n % 2 = 0 := by omega
  clear hodd hmr
  go_enter Tryd.func58, Tryd.ntmps58
  go_wp2_with fail
  generalize w.alloc (.cells #[.int .i64 x, .int .i64 y, .slice Ad n cd, .slice Ak m ck] 51) = w0 at b2 HD HB0 ⊢
  go_loopw [4, 5] (fun s x wr => ∃ (j i : Nat), i = 2 * j ∧ i ≤ n ∧ x = .int .i64 i ∧ s = .int .i64 (pairS ds j) ∧ -(8 * (j : Int)) ≤ pairS ds j ∧ pairS ds j ≤ 8 * j ∧ Hid (Below w0.heap.size w0 wr)) (fun _ x _ => n - (intOf x).toNat)
  case atStart => exact ⟨0, 0, rfl, by omega, rfl, rfl, by rw [pairS_zero]; omega, by rw [pairS_zero]; omega, Lib.hid (Below.refl _ _)⟩
  case round =>
   obtain ⟨j, i, hij, hi, rfl, rfl, hS0, hS8, hB⟩ := hrel
   by_cases hin : i < n
   ·have hii : (i : Int) < (n : Int) := by omega
    have b2 := stay_c b2 hB.out (Nat.le_refl _)
    obtain ⟨bd, od, dq, hAd, _, hdq, cq⟩ := (HD.out.below hB.out).int (show i + 1 < n by omega)
    obtain ⟨bd', od', di, hAd', _, hdi, ci⟩ := (HD.out.below hB.out).int hin
    subst hAd
    simp only [Option.some.injEq, Addr.mk.injEq, and_true] at hAd'
    obtain ⟨rfl, rfl⟩ := hAd'
    have g1 := H8.out dq (List.mem_of_getElem? hdq)
    have g2 := H8.out di (List.mem_of_getElem? hdi)
    have hps := pairS_succ ds j
    have e1 : ds.getD (2 * j + 1) 0 = dq := by
     rw [← hij]
     simp [List.getD, hdq]
    have e2 : ds.getD (2 * j) 0 = di := by
     rw [← hij]
     simp [List.getD, hdi]
    rw [e1, e2] at hps
    obtain ⟨S, hS⟩ : ∃ S, S = pairS ds j := ⟨_, rfl⟩
    rw [← hS] at hps hS0 hS8 ⊢
    have m1 : IntKind.i64.wrap ((i : Int) + 1) = ((i + 1 : Nat) : Int) := by rw [IntWalk.i64_in _ (by omega)]; rfl
    have m3 : IntKind.i64.wrap (dq - di) = dq - di := IntWalk.i64_in _ (by omega)
    have m7 : IntKind.i64.wrap (S + (dq - di)) = S + (dq - di) := IntWalk.i64_in _ (by omega)
    have hqi : ((i + 1 : Nat) : Int) < (n : Int) := by omega
    have hqi2 : (i : Int) + 1 < (n : Int) := by omega
    have hqi3 : (0 : Int) ≤ (i : Int) + 1 := by omega
    have m11 : IntKind.i64.wrap ((i : Int) + 2) = ((i + 2 : Nat) : Int) := by rw [IntWalk.i64_in _ (by omega)]; rfl
    have HPS := Lib.hid hps
    have HIJ := Lib.hid hij
    clear hij hps e1 e2 hdq hdi hS
    go_wp2
    go_roundw
    case rel => exact ⟨j + 1, i + 2, by have := HIJ.out; omega, by omega, by go_num, by rw [HPS.out], by rw [HPS.out]; omega, by rw [HPS.out]; omega, hB⟩
    case measure => simp [intOf]; omega
   ·have hii : ¬ (i : Int) < (n : Int) := by omega
    have hjn : j = n / 2 := by omega
    have hr : unevB ds = !decide (pairS ds j = 4) := by
     unfold unevB
     rw [HL.out, ← hjn]
     simp [h0]
    have HR := Lib.hid hr
    obtain ⟨S, hS⟩ : ∃ S, S = pairS ds j := ⟨_, rfl⟩
    rw [← hS] at HR ⊢
    clear hr hS hjn hS0 hS8
    go_wp2
    go_ret
    exact ⟨ret_bool (by rw [HR.out]; by_cases h4 : S = 4 <;> simp [h4]), stay_b HB0.out hB.out⟩
end
end Go.Proofs.YtoienokpchbglaaDoor
