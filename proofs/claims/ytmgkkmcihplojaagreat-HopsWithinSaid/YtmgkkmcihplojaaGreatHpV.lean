/- Plain law: the document's column of two floors. -/
import Derived.Test.YtmgkkmcihplojaaGreatHpP
namespace Go.Proofs.YtmgkkmcihplojaaGreat

abbrev hcfg : Cfg := ⟨0, 1, 3, 1, 1, 8, 8⟩
abbrev hr1 : Rc := ⟨2, 2, 2, 2, 1, [3], [7]⟩
abbrev hr2 : Rc := ⟨2, 2, 2, 2, 1, [7], [20]⟩
theorem hcfg_ok : cfgOk hcfg = true := by decide
theorem tl_col : tlE hcfg 0 0 [hr1, hr2] [] = 0 := by decide +kernel
theorem sm_col {t : Tl} (hx : t.x = 0) (hz : t.z = 0) (hr : t.rs.map Prod.snd = [hr1, hr2]) (hd : t.ds = []) : smE hcfg [t] = 0 := by
  refine smE_ok hcfg_ok (show (1 : Int) = tW hcfg.w * tW hcfg.d by decide) ?_
  have h : smT hcfg t 0 = true := by
    unfold smT
    rw [hx, hz, hr, hd, tl_col]
    decide
  unfold smTo
  simp [h]
theorem loc_c1 : locD 2 2 5 4 [[hr1, hr2]] = some ⟨0, 0, 3⟩ := by decide +kernel
theorem loc_c2 : locD 2 2 12 4 [[hr1, hr2]] = none := by decide +kernel
theorem loc_c3 : locD 2 2 3 4 [[hr1, hr2]] = some ⟨0, 0, 3⟩ := by decide +kernel
theorem loc_c4 : locD 2 2 7 4 [[hr1, hr2]] = some ⟨0, 1, 7⟩ := by decide +kernel
end Go.Proofs.YtmgkkmcihplojaaGreat
